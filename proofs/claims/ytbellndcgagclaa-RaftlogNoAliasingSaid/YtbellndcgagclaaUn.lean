import Derived.Test.YtbellndcgagclaaLookQ
namespace Go.Proofs.Ytbellndcgagclaa
open Go.RowKit

/-! ## What Get and Slice return may be written -/
structure EnU (w : World) (Av : Nat → Prop) (e : En) : Prop where
  ok : EnOk w Av e
  fr : 0 < e.m → ∃ g off, e.A = some ⟨g, off, none⟩ ∧ g < w.heap.size ∧ ¬ Av g ∧ ∀ j, w.frozen? ⟨g, j, none⟩ = false
section
variable {w w' : World} {Av Av' S : Nat → Prop} {e : En}
theorem EnU.keep (h : EnU w Av e) (hk : Keep S w w') (hS : ∀ i, i < w.heap.size → S i → Av i) : EnU w' Av e :=
  ⟨h.ok.keep hk hS, fun hm => by
    obtain ⟨g, off, h1, h2, h3, h4⟩ := h.fr hm
    exact ⟨g, off, h1, Nat.lt_of_lt_of_le h2 hk.size, h3, fun j => (hk.frozen (p := ⟨g, j, none⟩) h2 (fun hs => h3 (hS g h2 hs))).trans (h4 j)⟩⟩
theorem EnU.same (h : EnU w Av e) (hk : Same w w') : EnU w' Av e := h.keep hk (fun _ _ f => f.elim)
theorem EnU.wide (h : EnU w Av e) (hS : ∀ i, i < w.heap.size → Av' i → Av i) : EnU w Av' e :=
  ⟨h.ok.wide hS, fun hm => by
    obtain ⟨g, off, h1, h2, h3, h4⟩ := h.fr hm
    exact ⟨g, off, h1, h2, fun ha => h3 (hS g h2 ha), h4⟩⟩
theorem EnU.zero (w : World) (Av : Nat → Prop) : EnU w Av ⟨0, 0, none, 0, 0, []⟩ := ⟨EnOk.zero w Av, fun h => absurd h (Nat.lt_irrefl 0)⟩
end
def ClonePostU (w : World) (x : En) (e : Ending) (w' : World) : Prop :=
  ∃ B d, e = .returned (En.val ⟨x.t, x.k, B, x.m, d, x.body⟩) ∧ EnU w' (· < w.heap.size) ⟨x.t, x.k, B, x.m, d, x.body⟩ ∧ Same w w'
set_option maxRecDepth 100000 in
theorem cloneU_any (w : World) (Av : Nat → Prop) (x : En) (h : EnOk w Av x) (h8 : x.m ≤ 8192) : Calls Try.prog 39 #[x.val] w (ClonePostU w x) := by
  obtain ⟨t, k, A, m, c, y⟩ := x
  have hl : y.length = m := h.len
  have hk := Keep.two w (.cells #[.int .i64 t, .int .i64 k, .slice A m c] 46) (.cells #[.int .i64 0, .int .i64 0, .slice none 0 0] 46)
  have HS := hid (fun W (hs : Same w W) => h.body.same hs)
  have HB := hid h.bytes
  simp only at h8
  clear h
  unfold En.val
  go_enter Try.func39, Try.ntmps39
  go_wp2_with fail
  have HK := hid hk.drew
  have hB0 := ((Blk.made w 46 #[.int .i64 t, .int .i64 k, .slice A m c]).alloc (.cells #[.int .i64 0, .int .i64 0, .slice none 0 0] 46)).drew
  have hC0 := (Blk.made (w.alloc (.cells #[.int .i64 t, .int .i64 k, .slice A m c] 46)) 46 #[.int .i64 0, .int .i64 0, .slice none 0 0]).drew
  rw [World.size_alloc] at hC0
  have hS0 : Hid (((w.alloc (.cells #[.int .i64 t, .int .i64 k, .slice A m c] 46)).alloc (.cells #[.int .i64 0, .int .i64 0, .slice none 0 0] 46)).drew.cell? ⟨w.heap.size, 0, none⟩ = some (.int .i64 t) ∧
    ((w.alloc (.cells #[.int .i64 t, .int .i64 k, .slice A m c] 46)).alloc (.cells #[.int .i64 0, .int .i64 0, .slice none 0 0] 46)).drew.cell? ⟨w.heap.size, 1, none⟩ = some (.int .i64 k) ∧
    ((w.alloc (.cells #[.int .i64 t, .int .i64 k, .slice A m c] 46)).alloc (.cells #[.int .i64 0, .int .i64 0, .slice none 0 0] 46)).drew.cell? ⟨w.heap.size, 2, none⟩ = some (.slice A m c)) := ⟨hB0.at_ 0, hB0.at_ 1, hB0.at_ 2⟩
  go_region_held3 (fun w' => w'.cell? ⟨w.heap.size, 0, none⟩ = some (.int .i64 t) ∧ w'.cell? ⟨w.heap.size, 1, none⟩ = some (.int .i64 k) ∧ w'.cell? ⟨w.heap.size, 2, none⟩ = some (.slice A m c))
    (first | exact hS0 | exact hS1 | go_keep)
    (first
      | (refine E44.step rfl (.const (.slice none 0 0)) (.tmp 8) rfl (.slice none 0 0) A m c rfl rfl (w.heap.size + 2) 0 [] (ubs y) (Own.nil _ _ _ _) (by simp [ubs, hl]) ((HS.out _ HK.out).src (Keep.refl _ _)) (ubs_one y) (by omega) (by unfold maxLen; omega) (by simp) ?_
         intro A' c' w' hown hgr hwh
         have hK1 := HK.out.grown hgr (by simp [Value.ownBlock])
         have hB1 := hB0.keep ((Keep.refl (fun _ => False) _).grown hgr (by simp [Value.ownBlock])) (fun f => f)
         have hS1 : Hid (w'.cell? ⟨w.heap.size, 0, none⟩ = some (.int .i64 t) ∧ w'.cell? ⟨w.heap.size, 1, none⟩ = some (.int .i64 k) ∧ w'.cell? ⟨w.heap.size, 2, none⟩ = some (.slice A m c)) := ⟨hB1.at_ 0, hB1.at_ 1, hB1.at_ 2⟩
         have hC1 := hC0.keep ((Keep.refl (fun _ => False) _).grown hgr (by simp [Value.ownBlock])) (fun f => f)
         have c0 : w'.cell? ⟨w.heap.size + 1, 0, none⟩ = some (.int .i64 0) := hC1.at_ 0
         have c1 : w'.cell? ⟨w.heap.size + 1, 1, none⟩ = some (.int .i64 0) := hC1.at_ 1
         have c2 : w'.cell? ⟨w.heap.size + 1, 2, none⟩ = some (.slice none 0 0) := hC1.at_ 2
         have f0 : w'.frozen? ⟨w.heap.size + 1, 0, none⟩ = false := hC1.free 0
         have f1 : w'.frozen? ⟨w.heap.size + 1, 1, none⟩ = false := hC1.free 1
         have f2 : w'.frozen? ⟨w.heap.size + 1, 2, none⟩ = false := hC1.free 2
         have HC1 := hid hC1
         have HO := hid hown
         have HK1 := hid hK1
         have HG := hid hgr
         clear hown hgr hwh hK1 hB1 hC1))
  have HC2 := hid (((HC1.out.put 0 (.int .i64 t)).put 1 (.int .i64 k)).put 2 (.slice A' m c'))
  go_wp2_with fail
  generalize hW : ((w'.setCell ⟨w.heap.size + 1, 0, none⟩ (.int .i64 t)).setCell ⟨w.heap.size + 1, 1, none⟩ (.int .i64 k)).setCell ⟨w.heap.size + 1, 2, none⟩ (.slice A' m c') = W at *
  have r0 : W.cell? ⟨w.heap.size + 1, 0, none⟩ = some (.int .i64 t) := HC2.out.at_ 0
  have r1 : W.cell? ⟨w.heap.size + 1, 1, none⟩ = some (.int .i64 k) := HC2.out.at_ 1
  have r2 : W.cell? ⟨w.heap.size + 1, 2, none⟩ = some (.slice A' m c') := HC2.out.at_ 2
  refine bodyPost_ret (v := .agg #[.int .i64 t, .int .i64 k, .slice A' m c']) (by simp [results, Try.results39, go_sem, r0, r1, r2]) rfl ⟨A', c', rfl, ?_, ?_⟩
  · have hk3 : Keep (· = w.heap.size + 1) w' W := by
      rw [← hW]
      exact (((Keep.refl _ w').put 0 _).put 1 _).put 2 _
    have ho : Own w' (w.heap.size + 2) 5 1 (.slice A' m c') m (ubs y) := by simpa using HO.out
    have ho2 := ho.keep hk3 (fun i hi _ => by omega)
    refine ⟨⟨ho2.sl (fun g hg => by omega), HB.out, ?_⟩, fun hm => ?_⟩
    rotate_left 1
    · obtain ⟨g, cur, e1, h1, h2, _⟩ := ho2.open_ hm
      exact ⟨g, 0, e1, h2.lt, by omega, fun j => h2.free j⟩
    rcases Nat.eq_zero_or_pos m with h0 | h0
    · simp [h0]
    · obtain ⟨_, _, _, _, _, h1, _⟩ := ho2.open_ h0
      exact h1
  · rw [← hW]
    exact ((HK1.out.setCell (fun h => absurd (show w.heap.size + 1 < w.heap.size from h) (by omega)) _).setCell (fun h => absurd (show w.heap.size + 1 < w.heap.size from h) (by omega)) _).setCell (fun h => absurd (show w.heap.size + 1 < w.heap.size from h) (by omega)) _
def GetPostU (w : World) (q : PE) (b : Bool) (e : Ending) (w' : World) : Prop :=
  ∃ x : En, e = .returned (.tuple #[x.val, .bool b]) ∧ EnU w' (· < w.heap.size) x ∧ x.pe = q ∧ Same w w'
set_option maxHeartbeats 4000000 in
set_option maxRecDepth 100000 in
theorem getU_any (w : World) (Av : Nat → Prop) (lb : Nat) (r : Option Nat) (A : Option Addr) (c : Nat) (l : List En) (h : IsLog w Av lb r A c l) (hn : l.length ≤ 1000) (i : Int) :
    Calls Try.prog 22 #[.pointer (some ⟨lb, 0, none⟩), .int .i64 i] w (GetPostU w (getE l i) (getB l i)) := by
  have hc := h.c0
  have hlt := h.top.lt
  have HI := hid h
  by_cases hi : i < 1 ∨ (l.length : Int) < i
  · obtain ⟨e1, e2⟩ := getB_no (l := l) (n := i) (by omega)
    rw [e1, e2]
    have hb := (Blk.made w 46 #[.int .i64 0, .int .i64 0, .slice none 0 0])
    have c0 : (w.alloc (.cells #[.int .i64 0, .int .i64 0, .slice none 0 0] 46)).cell? ⟨w.heap.size, 0, none⟩ = some (.int .i64 0) := hb.at_ 0
    have c1 : (w.alloc (.cells #[.int .i64 0, .int .i64 0, .slice none 0 0] 46)).cell? ⟨w.heap.size, 1, none⟩ = some (.int .i64 0) := hb.at_ 1
    have c2 : (w.alloc (.cells #[.int .i64 0, .int .i64 0, .slice none 0 0] 46)).cell? ⟨w.heap.size, 2, none⟩ = some (.slice none 0 0) := hb.at_ 2
    have f0 := hb.free 0
    have f1 := hb.free 1
    have f2 := hb.free 2
    have cl : (w.alloc (.cells #[.int .i64 0, .int .i64 0, .slice none 0 0] 46)).cell? ⟨lb, 0, none⟩ = some (.slice A l.length c) := (h.top.alloc _).at_ 0
    clear h e1 e2 hb
    generalize l.length = n at *
    rcases hi with hi | hi
    all_goals
      go_enter Try.func22, Try.ntmps22
      go_wp2_with fail
      exact bodyPost_ret (v := .tuple #[.agg #[.int .i64 0, .int .i64 0, .slice none 0 0], .bool false]) (by simp [results, Try.results22, go_sem, c0, c1, c2]) rfl ⟨⟨0, 0, none, 0, 0, []⟩, rfl, EnU.zero _ _, rfl, (Keep.refl _ w).alloc _⟩
  · obtain ⟨j, rfl⟩ : ∃ j : Nat, i = (j : Int) + 1 := ⟨(i - 1).toNat, by omega⟩
    obtain ⟨e, he⟩ := get_some (l := l) (k := j) (by omega)
    have hB : getB l ((j : Int) + 1) = true := by simp [getB]; omega
    have hE : getE l ((j : Int) + 1) = e.pe := by
      unfold getE
      rw [if_pos (by omega), show ((j : Int) + 1 - 1).toNat = j by omega, he]; rfl
    rw [hB, hE]
    have hk1 : Same w (w.alloc (.cells #[.int .i64 0, .int .i64 0, .slice none 0 0] 46)) := (Keep.refl _ w).alloc _
    have cl : (w.alloc (.cells #[.int .i64 0, .int .i64 0, .slice none 0 0] 46)).cell? ⟨lb, 0, none⟩ = some (.slice A l.length c) := (h.top.alloc _).at_ 0
    obtain ⟨b, off, rfl, c0, c1, c2⟩ := (h.ls.same hk1).at_ he
    have he8 := rightP_len (h.el e (List.mem_of_getElem? he)) (h.ok e (List.mem_of_getElem? he))
    have HE := hid ((h.el e (List.mem_of_getElem? he)).same hk1)
    have HC := hid (cloneU_any _ _ e HE.out he8)
    have HB := hid (Blk.made w 46 #[.int .i64 0, .int .i64 0, .slice none 0 0])
    have HK1 := hid hk1
    have hjn : j < l.length := by omega
    have h1 : ((j : Int) + 1 - 1) = j := by omega
    unfold En.val at HC
    clear h hB hE hk1 he hi
    generalize l.length = n at *
    go_enter Try.func22, Try.ntmps22
    go_wp2_with (first
      | (go_at_call 39; refine HC.out.mono ?_; rintro e' w2 ⟨B, d, rfl, he2, hk2⟩
         unfold En.val
         have hB2 := HB.out.keep hk2 (fun f => f)
         have g0 : w2.cell? ⟨w.heap.size, 0, none⟩ = some (.int .i64 0) := hB2.at_ 0
         have g1 : w2.cell? ⟨w.heap.size, 1, none⟩ = some (.int .i64 0) := hB2.at_ 1
         have g2 : w2.cell? ⟨w.heap.size, 2, none⟩ = some (.slice none 0 0) := hB2.at_ 2
         have f0 := hB2.free 0
         have f1 := hB2.free 1
         have f2 := hB2.free 2
         have HB2 := hid hB2
         have HE2 := hid he2
         have HK2 := hid hk2
         clear hB2 he2 hk2))
    generalize hW : ((w2.setCell ⟨w.heap.size, 0, none⟩ (.int .i64 e.t)).setCell ⟨w.heap.size, 1, none⟩ (.int .i64 e.k)).setCell ⟨w.heap.size, 2, none⟩ (.slice B e.m d) = W at *
    have hb3 : Blk W w.heap.size 46 #[.int .i64 e.t, .int .i64 e.k, .slice B e.m d] := by
      rw [← hW]
      exact (((HB2.out.put 0 _).put 1 _).put 2 _)
    have hk3 : Keep (· = w.heap.size) w2 W := by
      rw [← hW]
      exact (((Keep.refl _ w2).put 0 _).put 1 _).put 2 _
    have r0 : W.cell? ⟨w.heap.size, 0, none⟩ = some (.int .i64 e.t) := hb3.at_ 0
    have r1 : W.cell? ⟨w.heap.size, 1, none⟩ = some (.int .i64 e.k) := hb3.at_ 1
    have r2 : W.cell? ⟨w.heap.size, 2, none⟩ = some (.slice B e.m d) := hb3.at_ 2
    refine bodyPost_ret (v := .tuple #[.agg #[.int .i64 e.t, .int .i64 e.k, .slice B e.m d], .bool true]) (by simp [results, Try.results22, go_sem, r0, r1, r2]) rfl ⟨⟨e.t, e.k, B, e.m, d, e.body⟩, rfl, ?_, rfl, ?_⟩
    · exact (HE2.out.keep hk3 (fun i _ (hs : i = w.heap.size) => by simp [hs])).wide (fun i _ hs => by simp; omega)
    · exact (HK1.out.then HK2.out).trans hk3 (fun i hi hs => by omega)
def SlicePostU (w : World) (q : List PE) (e : Ending) (w' : World) : Prop :=
  ∃ Y n d l', e = .returned (.slice Y n d) ∧ Ls w' (· < w.heap.size) Y n d l' ∧ (∀ e ∈ l', EnU w' (· < w.heap.size) e) ∧ l'.map En.pe = q ∧ Same w w'
theorem SlicePostU.nil (w w' : World) (h : Same w w') : SlicePostU w [] (.returned (.slice none 0 0)) w' := ⟨none, 0, 0, [], rfl, Ls.nil _ _, by simp, rfl, h⟩
/-- so far k entries are cloned into block G -/
structure ClonedU (w : World) (wr : World) (G m k : Nat) (p : List En) : Prop where
  ex : ∃ cs : Array Value, ∃ l' : List En, Blk wr G 46 cs ∧ cs.size = m * 3 ∧ cs.toList.take (k * 3) = enFlat l' ∧ l'.length = k ∧ l'.map En.pe = (p.take k).map En.pe ∧ (∀ e ∈ l', EnU wr (fun i => i < w.heap.size ∨ i = G) e)
  same : Same w wr
theorem ClonedU.keep {w wr w' : World} {G m k : Nat} {p : List En} (h : ClonedU w wr G m k p) (hk : Same wr w') : ClonedU w w' G m k p := by
  obtain ⟨cs, l', h1, h2, h3, h4, h5, h6⟩ := h.ex
  exact ⟨⟨cs, l', h1.keep hk (fun f => f), h2, h3, h4, h5, fun e he => (h6 e he).same hk⟩, h.same.then hk⟩
/-- one clone more -/
theorem ClonedU.put {w wr : World} {G m k : Nat} {p : List En} (h : ClonedU w wr G m k p) (hk : k < m) (hG : w.heap.size ≤ G) {e x : En} (he : p[k]? = some e) (hx : EnU wr (fun i => i < w.heap.size ∨ i = G) x) (hp : x.pe = e.pe) :
    ClonedU w (((wr.setCell ⟨G, k * 3, none⟩ (.int .i64 x.t)).setCell ⟨G, k * 3 + 1, none⟩ (.int .i64 x.k)).setCell ⟨G, k * 3 + 2, none⟩ (.slice x.A x.m x.c)) G m (k + 1) p := by
  obtain ⟨cs, l', h1, h2, h3, h4, h5, h6⟩ := h.ex
  have hk3 : Keep (· = G) wr (((wr.setCell ⟨G, k * 3, none⟩ (.int .i64 x.t)).setCell ⟨G, k * 3 + 1, none⟩ (.int .i64 x.k)).setCell ⟨G, k * 3 + 2, none⟩ (.slice x.A x.m x.c)) := (((Keep.refl _ wr).put _ _).put _ _).put _ _
  refine ⟨⟨_, l' ++ [x], ((h1.put _ _).put _ _).put _ _, by simpa using h2, ?_, by simp [h4], ?_, ?_⟩, h.same.trans hk3 (fun i hi hs => by omega)⟩
  · rw [take_set3 h2 hk h3]
    simp [enFlat, En.cells]
  · rw [take_snoc he, List.map_append, List.map_append, h5]
    simp [hp]
  · intro y hy
    rcases List.mem_append.1 hy with hy | hy
    · exact (h6 y hy).keep hk3 (fun i _ hs => .inr hs)
    · simp at hy
      subst hy
      exact hx.keep hk3 (fun i _ hs => .inr hs)
theorem ClonedU.cell {w wr : World} {G m k : Nat} {p : List En} (h : ClonedU w wr G m k p) (hk : k < m) : (∃ u, wr.cell? ⟨G, k * 3, none⟩ = some u) ∧ (∃ u, wr.cell? ⟨G, k * 3 + 1, none⟩ = some u) ∧ (∃ u, wr.cell? ⟨G, k * 3 + 2, none⟩ = some u) ∧ (∀ j, wr.frozen? ⟨G, j, none⟩ = false) ∧ G < wr.heap.size := by
  obtain ⟨cs, l', h1, h2, _⟩ := h.ex
  refine ⟨?_, ?_, ?_, fun j => h1.free j, h1.lt⟩
  · obtain ⟨v, hv⟩ := get_some (l := cs.toList) (k := k * 3) (by simp; omega)
    exact ⟨v, by rw [h1.at_]; simpa using hv⟩
  · obtain ⟨v, hv⟩ := get_some (l := cs.toList) (k := k * 3 + 1) (by simp; omega)
    exact ⟨v, by rw [h1.at_]; simpa using hv⟩
  · obtain ⟨v, hv⟩ := get_some (l := cs.toList) (k := k * 3 + 2) (by simp; omega)
    exact ⟨v, by rw [h1.at_]; simpa using hv⟩
theorem ClonedU.done {w wr : World} {G m : Nat} {p : List En} (h : ClonedU w wr G m m p) (hG : w.heap.size ≤ G) (hm : p.length = m) (q : List PE) (hq : q = p.map En.pe) : SlicePostU w q (.returned (.slice (some ⟨G, 0, none⟩) m m)) wr := by
  obtain ⟨cs, l', h1, h2, h3, h4, h5, h6⟩ := h.ex
  refine ⟨_, m, m, l', rfl, ⟨h4, ?_, fun e he => ((h6 e he).wide (fun i _ hs => .inl hs)).ok, Nat.le_refl _⟩, fun e he => (h6 e he).wide (fun i _ hs => .inl hs), ?_, h.same⟩
  · have := Sl.of_blk (Av := (· < w.heap.size)) (size := 3) (n := m) h1 h2 (by omega)
    rwa [← h3, List.take_of_length_le (by simp; omega)]
  · rw [h5, hq, List.take_of_length_le (by omega)]
set_option maxHeartbeats 8000000 in
set_option maxRecDepth 100000 in
theorem sliceU_any (w : World) (Av : Nat → Prop) (lb : Nat) (r : Option Nat) (A : Option Addr) (c : Nat) (l : List En) (h : IsLog w Av lb r A c l) (hn : l.length ≤ 1000) (i most : Int) :
    Calls Try.prog 20 #[.pointer (some ⟨lb, 0, none⟩), .int .i64 i, .int .i64 most] w (SlicePostU w ((fromN l i most).map En.pe)) := by
  have hc := h.c0
  have hlt := h.top.lt
  have HI := hid h
  obtain ⟨j, hj, hij⟩ : ∃ j : Nat, (max i 1 - 1).toNat = j ∧ ((i < 1 ∧ j = 0) ∨ (1 ≤ i ∧ i = (j : Int) + 1)) := by
    refine ⟨_, rfl, ?_⟩
    by_cases h1 : i < 1
    · left; constructor <;> omega
    · right; constructor <;> omega
  by_cases h1 : most < 1
  · have e : fromN l i most = [] := by simp [fromN, h1]
    rw [e]
    clear h e hj
    generalize l.length = n at *
    rcases hij with ⟨h2, rfl⟩ | ⟨h2, rfl⟩
    all_goals
      go_enter Try.func20, Try.ntmps20
      go_wp2_with fail
      go_ret
      exact SlicePostU.nil _ _ (Keep.refl _ _)
  · by_cases h2 : l.length ≤ j
    · have e : fromN l i most = [] := by simp [fromN, h1, hj, List.drop_of_length_le h2]
      rw [e]
      clear h e hj
      generalize l.length = n at *
      rcases hij with ⟨h3, rfl⟩ | ⟨h3, rfl⟩
      all_goals
        go_enter Try.func20, Try.ntmps20
        go_wp2_with fail
        go_ret
        exact SlicePostU.nil _ _ (Keep.refl _ _)
    · obtain ⟨m, hm, hmm⟩ : ∃ m : Nat, m = (fromN l i most).length ∧ ((most ≤ (l.length - j : Nat) ∧ most = m) ∨ ((l.length - j : Nat) < most ∧ m = l.length - j)) := by
        refine ⟨_, rfl, ?_⟩
        simp only [fromN, if_neg h1, hj, List.length_take, List.length_drop]
        omega
      have hp := hid (show ∀ k e, (fromN l i most)[k]? = some e → l[j + k]? = some e by
        intro k e he
        simp only [fromN, if_neg h1, hj, List.getElem?_take, List.getElem?_drop] at he
        split at he
        · exact he
        · cases he)
      have Hm := hid hm
      have hmk := fun W => E26.make .i64 .i64 m m (by omega) (by omega) (by omega) (by omega) W
      obtain ⟨b, off, rfl, _⟩ := h.ls.sl.at_ (by omega)
      have hcap := h.cap
      clear h hj hm
      generalize hnn : l.length = n at *
      have Hn := hid hnn
      clear hnn
      rcases hij with ⟨h3, rfl⟩ | ⟨h3, rfl⟩
      · rcases hmm with ⟨h4, rfl⟩ | ⟨h4, rfl⟩
        · go_enter Try.func20, Try.ntmps20
          go_wp2_with fail
          go_loopw [42] (fun v wr => ∃ k : Nat, k ≤ m ∧ v = .int .i64 k ∧ Hid (ClonedU w wr w.heap.size m k (fromN l i m))) (fun v _ => m - (RowKit.intOf v).toNat)
          case atStart => exact ⟨0, by omega, rfl, hid ⟨⟨_, [], Blk.made w 46 _, by simp [size_madeCells], by simp [enFlat], rfl, rfl, by simp⟩, (Keep.refl _ w).alloc _⟩⟩
          case round =>
            obtain ⟨k, hk, rfl, HCl⟩ := hrel
            by_cases hkm : k < m
            · obtain ⟨e, he⟩ := get_some (l := fromN l i m) (k := k) (by have := Hm.out; omega)
              have hle := hp.out k e he
              have hsame := HCl.out.same
              have hsz := hsame.size
              obtain ⟨b', off', e1, c0, c1, c2⟩ := (HI.out.ls.same (hsame.alloc (.cells #[.int .i64 0, .int .i64 0, .slice none 0 0] 46))).at_ hle
              obtain ⟨b'', off'', e1', d0, d1, d2⟩ := (HI.out.ls.same hsame).at_ hle
              cases e1
              cases e1'
              have ho : off + (0 + k) * 3 = off + k * 3 := by omega
              rw [ho] at c0 c1 c2 d0 d1 d2
              have HE := hid (HI.out.el e (List.mem_of_getElem? hle))
              have he8 := rightP_len HE.out (HI.out.ok e (List.mem_of_getElem? hle))
              have HP := hid he
              have hb := (Blk.made wr 46 #[.int .i64 0, .int .i64 0, .slice none 0 0])
              have f0 := hb.free 0
              have f1 := hb.free 1
              have f2 := hb.free 2
              have z0 : (wr.alloc (.cells #[.int .i64 0, .int .i64 0, .slice none 0 0] 46)).cell? ⟨wr.heap.size, 0, none⟩ = some (.int .i64 0) := hb.at_ 0
              have z1 : (wr.alloc (.cells #[.int .i64 0, .int .i64 0, .slice none 0 0] 46)).cell? ⟨wr.heap.size, 1, none⟩ = some (.int .i64 0) := hb.at_ 1
              have z2 : (wr.alloc (.cells #[.int .i64 0, .int .i64 0, .slice none 0 0] 46)).cell? ⟨wr.heap.size, 2, none⟩ = some (.slice none 0 0) := hb.at_ 2
              have hm1 : (k : Int) < ((m : Nat) : Int) := by omega
              have HS := hid hsame
              clear hb he hle hsame
              have HC := hid (cloneU_any _ _ e (HE.out.same (HS.out.alloc (.cells #[.int .i64 e.t, .int .i64 e.k, .slice e.A e.m e.c] 46))) he8)
              have hGlt := (HCl.out.cell hkm).2.2.2.2
              unfold En.val at HC
              go_wp2_with (first
                | (go_at_call 39; refine HC.out.mono ?_; rintro e' w2 ⟨B, d, rfl, he2, hk2⟩
                   unfold En.val
                   have HC2 := hid (HCl.out.keep (((Keep.refl _ wr).alloc _).then hk2))
                   obtain ⟨⟨u0, hu0⟩, ⟨u1, hu1⟩, ⟨u2, hu2⟩, hf, _⟩ := HC2.out.cell hkm
                   have g0 := hf (k * 3)
                   have g1 := hf (k * 3 + 1)
                   have g2 := hf (k * 3 + 2)
                   have HE2 := hid he2
                   clear hf he2 hk2))
              go_roundw
              case rel => exact ⟨k + 1, by omega, by go_num, hid (HC2.out.put hkm (Nat.le_refl _) HP.out (x := ⟨e.t, e.k, B, e.m, d, e.body⟩) (HE2.out.wide (fun i _ hs => by simp; omega)) rfl)⟩
              case measure => simp [RowKit.intOf]; omega
            · obtain rfl : k = m := by omega
              go_wp2_with fail
              go_ret
              exact HCl.out.done (Nat.le_refl _) Hm.out.symm _ rfl
        · go_enter Try.func20, Try.ntmps20
          go_wp2_with fail
          go_loopw [42] (fun v wr => ∃ k : Nat, k ≤ m ∧ v = .int .i64 k ∧ Hid (ClonedU w wr w.heap.size m k (fromN l i most))) (fun v _ => m - (RowKit.intOf v).toNat)
          case atStart => exact ⟨0, by omega, rfl, hid ⟨⟨_, [], Blk.made w 46 _, by simp [size_madeCells], by simp [enFlat], rfl, rfl, by simp⟩, (Keep.refl _ w).alloc _⟩⟩
          case round =>
            obtain ⟨k, hk, rfl, HCl⟩ := hrel
            by_cases hkm : k < m
            · obtain ⟨e, he⟩ := get_some (l := fromN l i most) (k := k) (by have := Hm.out; omega)
              have hle := hp.out k e he
              have hsame := HCl.out.same
              have hsz := hsame.size
              obtain ⟨b', off', e1, c0, c1, c2⟩ := (HI.out.ls.same (hsame.alloc (.cells #[.int .i64 0, .int .i64 0, .slice none 0 0] 46))).at_ hle
              obtain ⟨b'', off'', e1', d0, d1, d2⟩ := (HI.out.ls.same hsame).at_ hle
              cases e1
              cases e1'
              have ho : off + (0 + k) * 3 = off + k * 3 := by omega
              rw [ho] at c0 c1 c2 d0 d1 d2
              have HE := hid (HI.out.el e (List.mem_of_getElem? hle))
              have he8 := rightP_len HE.out (HI.out.ok e (List.mem_of_getElem? hle))
              have HP := hid he
              have hb := (Blk.made wr 46 #[.int .i64 0, .int .i64 0, .slice none 0 0])
              have f0 := hb.free 0
              have f1 := hb.free 1
              have f2 := hb.free 2
              have z0 : (wr.alloc (.cells #[.int .i64 0, .int .i64 0, .slice none 0 0] 46)).cell? ⟨wr.heap.size, 0, none⟩ = some (.int .i64 0) := hb.at_ 0
              have z1 : (wr.alloc (.cells #[.int .i64 0, .int .i64 0, .slice none 0 0] 46)).cell? ⟨wr.heap.size, 1, none⟩ = some (.int .i64 0) := hb.at_ 1
              have z2 : (wr.alloc (.cells #[.int .i64 0, .int .i64 0, .slice none 0 0] 46)).cell? ⟨wr.heap.size, 2, none⟩ = some (.slice none 0 0) := hb.at_ 2
              have hm1 : (k : Int) < ((m : Nat) : Int) := by omega
              have HS := hid hsame
              clear hb he hle hsame
              have HC := hid (cloneU_any _ _ e (HE.out.same (HS.out.alloc (.cells #[.int .i64 e.t, .int .i64 e.k, .slice e.A e.m e.c] 46))) he8)
              have hGlt := (HCl.out.cell hkm).2.2.2.2
              unfold En.val at HC
              go_wp2_with (first
                | (go_at_call 39; refine HC.out.mono ?_; rintro e' w2 ⟨B, d, rfl, he2, hk2⟩
                   unfold En.val
                   have HC2 := hid (HCl.out.keep (((Keep.refl _ wr).alloc _).then hk2))
                   obtain ⟨⟨u0, hu0⟩, ⟨u1, hu1⟩, ⟨u2, hu2⟩, hf, _⟩ := HC2.out.cell hkm
                   have g0 := hf (k * 3)
                   have g1 := hf (k * 3 + 1)
                   have g2 := hf (k * 3 + 2)
                   have HE2 := hid he2
                   clear hf he2 hk2))
              go_roundw
              case rel => exact ⟨k + 1, by omega, by go_num, hid (HC2.out.put hkm (Nat.le_refl _) HP.out (x := ⟨e.t, e.k, B, e.m, d, e.body⟩) (HE2.out.wide (fun i _ hs => by simp; omega)) rfl)⟩
              case measure => simp [RowKit.intOf]; omega
            · obtain rfl : k = m := by omega
              go_wp2_with fail
              go_ret
              exact HCl.out.done (Nat.le_refl _) Hm.out.symm _ rfl
      · rcases hmm with ⟨h4, rfl⟩ | ⟨h4, rfl⟩
        · go_enter Try.func20, Try.ntmps20
          go_wp2_with fail
          go_loopw [42] (fun v wr => ∃ k : Nat, k ≤ m ∧ v = .int .i64 k ∧ Hid (ClonedU w wr w.heap.size m k (fromN l ((j : Int) + 1) m))) (fun v _ => m - (RowKit.intOf v).toNat)
          case atStart => exact ⟨0, by omega, rfl, hid ⟨⟨_, [], Blk.made w 46 _, by simp [size_madeCells], by simp [enFlat], rfl, rfl, by simp⟩, (Keep.refl _ w).alloc _⟩⟩
          case round =>
            obtain ⟨k, hk, rfl, HCl⟩ := hrel
            by_cases hkm : k < m
            · obtain ⟨e, he⟩ := get_some (l := fromN l ((j : Int) + 1) m) (k := k) (by have := Hm.out; omega)
              have hle := hp.out k e he
              have hsame := HCl.out.same
              have hsz := hsame.size
              obtain ⟨b', off', e1, c0, c1, c2⟩ := (HI.out.ls.same (hsame.alloc (.cells #[.int .i64 0, .int .i64 0, .slice none 0 0] 46))).at_ hle
              obtain ⟨b'', off'', e1', d0, d1, d2⟩ := (HI.out.ls.same hsame).at_ hle
              cases e1
              cases e1'
              have ho : off + (j + k) * 3 = (off + j * 3) + k * 3 := by omega
              rw [ho] at c0 c1 c2 d0 d1 d2
              have HE := hid (HI.out.el e (List.mem_of_getElem? hle))
              have he8 := rightP_len HE.out (HI.out.ok e (List.mem_of_getElem? hle))
              have HP := hid he
              have hb := (Blk.made wr 46 #[.int .i64 0, .int .i64 0, .slice none 0 0])
              have f0 := hb.free 0
              have f1 := hb.free 1
              have f2 := hb.free 2
              have z0 : (wr.alloc (.cells #[.int .i64 0, .int .i64 0, .slice none 0 0] 46)).cell? ⟨wr.heap.size, 0, none⟩ = some (.int .i64 0) := hb.at_ 0
              have z1 : (wr.alloc (.cells #[.int .i64 0, .int .i64 0, .slice none 0 0] 46)).cell? ⟨wr.heap.size, 1, none⟩ = some (.int .i64 0) := hb.at_ 1
              have z2 : (wr.alloc (.cells #[.int .i64 0, .int .i64 0, .slice none 0 0] 46)).cell? ⟨wr.heap.size, 2, none⟩ = some (.slice none 0 0) := hb.at_ 2
              have hm1 : (k : Int) < ((m : Nat) : Int) := by omega
              have HS := hid hsame
              clear hb he hle hsame
              have HC := hid (cloneU_any _ _ e (HE.out.same (HS.out.alloc (.cells #[.int .i64 e.t, .int .i64 e.k, .slice e.A e.m e.c] 46))) he8)
              have hGlt := (HCl.out.cell hkm).2.2.2.2
              unfold En.val at HC
              go_wp2_with (first
                | (go_at_call 39; refine HC.out.mono ?_; rintro e' w2 ⟨B, d, rfl, he2, hk2⟩
                   unfold En.val
                   have HC2 := hid (HCl.out.keep (((Keep.refl _ wr).alloc _).then hk2))
                   obtain ⟨⟨u0, hu0⟩, ⟨u1, hu1⟩, ⟨u2, hu2⟩, hf, _⟩ := HC2.out.cell hkm
                   have g0 := hf (k * 3)
                   have g1 := hf (k * 3 + 1)
                   have g2 := hf (k * 3 + 2)
                   have HE2 := hid he2
                   clear hf he2 hk2))
              go_roundw
              case rel => exact ⟨k + 1, by omega, by go_num, hid (HC2.out.put hkm (Nat.le_refl _) HP.out (x := ⟨e.t, e.k, B, e.m, d, e.body⟩) (HE2.out.wide (fun i _ hs => by simp; omega)) rfl)⟩
              case measure => simp [RowKit.intOf]; omega
            · obtain rfl : k = m := by omega
              go_wp2_with fail
              go_ret
              exact HCl.out.done (Nat.le_refl _) Hm.out.symm _ rfl
        · go_enter Try.func20, Try.ntmps20
          go_wp2_with fail
          go_loopw [42] (fun v wr => ∃ k : Nat, k ≤ (n - j) ∧ v = .int .i64 k ∧ Hid (ClonedU w wr w.heap.size (n - j) k (fromN l ((j : Int) + 1) most))) (fun v _ => (n - j) - (RowKit.intOf v).toNat)
          case atStart => exact ⟨0, by omega, rfl, hid ⟨⟨_, [], Blk.made w 46 _, by simp [size_madeCells], by simp [enFlat], rfl, rfl, by simp⟩, (Keep.refl _ w).alloc _⟩⟩
          case round =>
            obtain ⟨k, hk, rfl, HCl⟩ := hrel
            by_cases hkm : k < (n - j)
            · obtain ⟨e, he⟩ := get_some (l := fromN l ((j : Int) + 1) most) (k := k) (by have := Hm.out; omega)
              have hle := hp.out k e he
              have hsame := HCl.out.same
              have hsz := hsame.size
              obtain ⟨b', off', e1, c0, c1, c2⟩ := (HI.out.ls.same (hsame.alloc (.cells #[.int .i64 0, .int .i64 0, .slice none 0 0] 46))).at_ hle
              obtain ⟨b'', off'', e1', d0, d1, d2⟩ := (HI.out.ls.same hsame).at_ hle
              cases e1
              cases e1'
              have ho : off + (j + k) * 3 = (off + j * 3) + k * 3 := by omega
              rw [ho] at c0 c1 c2 d0 d1 d2
              have HE := hid (HI.out.el e (List.mem_of_getElem? hle))
              have he8 := rightP_len HE.out (HI.out.ok e (List.mem_of_getElem? hle))
              have HP := hid he
              have hb := (Blk.made wr 46 #[.int .i64 0, .int .i64 0, .slice none 0 0])
              have f0 := hb.free 0
              have f1 := hb.free 1
              have f2 := hb.free 2
              have z0 : (wr.alloc (.cells #[.int .i64 0, .int .i64 0, .slice none 0 0] 46)).cell? ⟨wr.heap.size, 0, none⟩ = some (.int .i64 0) := hb.at_ 0
              have z1 : (wr.alloc (.cells #[.int .i64 0, .int .i64 0, .slice none 0 0] 46)).cell? ⟨wr.heap.size, 1, none⟩ = some (.int .i64 0) := hb.at_ 1
              have z2 : (wr.alloc (.cells #[.int .i64 0, .int .i64 0, .slice none 0 0] 46)).cell? ⟨wr.heap.size, 2, none⟩ = some (.slice none 0 0) := hb.at_ 2
              have hm1 : (k : Int) < (((n - j) : Nat) : Int) := by omega
              have HS := hid hsame
              clear hb he hle hsame
              have HC := hid (cloneU_any _ _ e (HE.out.same (HS.out.alloc (.cells #[.int .i64 e.t, .int .i64 e.k, .slice e.A e.m e.c] 46))) he8)
              have hGlt := (HCl.out.cell hkm).2.2.2.2
              unfold En.val at HC
              go_wp2_with (first
                | (go_at_call 39; refine HC.out.mono ?_; rintro e' w2 ⟨B, d, rfl, he2, hk2⟩
                   unfold En.val
                   have HC2 := hid (HCl.out.keep (((Keep.refl _ wr).alloc _).then hk2))
                   obtain ⟨⟨u0, hu0⟩, ⟨u1, hu1⟩, ⟨u2, hu2⟩, hf, _⟩ := HC2.out.cell hkm
                   have g0 := hf (k * 3)
                   have g1 := hf (k * 3 + 1)
                   have g2 := hf (k * 3 + 2)
                   have HE2 := hid he2
                   clear hf he2 hk2))
              go_roundw
              case rel => exact ⟨k + 1, by omega, by go_num, hid (HC2.out.put hkm (Nat.le_refl _) HP.out (x := ⟨e.t, e.k, B, e.m, d, e.body⟩) (HE2.out.wide (fun i _ hs => by simp; omega)) rfl)⟩
              case measure => simp [RowKit.intOf]; omega
            · obtain rfl : k = (n - j) := by omega
              go_wp2_with fail
              go_ret
              exact HCl.out.done (Nat.le_refl _) Hm.out.symm _ rfl
theorem getU_at (w : World) (Av : Nat → Prop) (lb : Nat) (q : List PE) (h : LogAt w Av lb q) (hn : q.length ≤ 1000) (i : Int) : Calls Try.prog 22 #[.pointer (some ⟨lb, 0, none⟩), .int .i64 i] w (GetPostU w (getQ q i) (getBQ q i)) := by
  obtain ⟨r, A, c, l, h1, rfl⟩ := h
  have := getU_any w Av lb r A c l h1 (by simpa using hn) i
  rw [getE_q] at this
  simp only [getB] at this
  simp only [getBQ, List.length_map]
  exact this
theorem sliceU_at (w : World) (Av : Nat → Prop) (lb : Nat) (q : List PE) (h : LogAt w Av lb q) (hn : q.length ≤ 1000) (i most : Int) : Calls Try.prog 20 #[.pointer (some ⟨lb, 0, none⟩), .int .i64 i, .int .i64 most] w (SlicePostU w (fromQ q i most)) := by
  obtain ⟨r, A, c, l, h1, rfl⟩ := h
  have := sliceU_any w Av lb r A c l h1 (by simpa using hn) i most
  rwa [fromN_q] at this
theorem LogAt.keep {w w' : World} {Av S : Nat → Prop} {lb : Nat} {q : List PE} (h : LogAt w Av lb q) (hk : Keep S w w') (hS : ∀ i, i < w.heap.size → S i → Av i) : LogAt w' Av lb q := by
  obtain ⟨r, A, c, l, h1, h2⟩ := h; exact ⟨r, A, c, l, h1.keep hk hS, h2⟩
end Go.Proofs.Ytbellndcgagclaa

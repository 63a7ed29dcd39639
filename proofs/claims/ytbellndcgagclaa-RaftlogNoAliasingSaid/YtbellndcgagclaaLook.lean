import Derived.Test.YtbellndcgagclaaAppend
namespace Go.Proofs.Ytbellndcgagclaa
open Go.RowKit

/-! ## Reading a log: Get, UpToDate, From, Slice -/
def GetPost (w : World) (q : PE) (b : Bool) (e : Ending) (w' : World) : Prop :=
  ∃ x : En, e = .returned (.tuple #[x.val, .bool b]) ∧ EnOk w' (· < w.heap.size) x ∧ x.pe = q ∧ Same w w'
def getB (l : List En) (n : Int) : Bool := decide (1 ≤ n) && decide (n ≤ l.length)
def getE (l : List En) (n : Int) : PE := if 1 ≤ n then (l[(n - 1).toNat]?).elim (0, 0, []) En.pe else (0, 0, [])
theorem getB_no {l : List En} {n : Int} (h : n < 1 ∨ (l.length : Int) < n) : getB l n = false ∧ getE l n = (0, 0, []) := by
  constructor
  · simp only [getB]
    by_cases h0 : 1 ≤ n
    · have : ¬ n ≤ l.length := by omega
      simp [this]
    · simp [h0]
  · unfold getE
    split
    · rw [List.getElem?_eq_none (by omega)]; rfl
    · rfl
theorem EnOk.zero (w : World) (Av : Nat → Prop) : EnOk w Av ⟨0, 0, none, 0, 0, []⟩ := ⟨Sl.nil _ _ _ _, by simp, Nat.le_refl _⟩
set_option maxHeartbeats 4000000 in
set_option maxRecDepth 100000 in
theorem get_any (w : World) (Av : Nat → Prop) (lb : Nat) (r : Option Nat) (A : Option Addr) (c : Nat) (l : List En) (h : IsLog w Av lb r A c l) (hn : l.length ≤ 1000) (i : Int) :
    Calls Try.prog 22 #[.pointer (some ⟨lb, 0, none⟩), .int .i64 i] w (GetPost w (getE l i) (getB l i)) := by
  have hc := h.c0
  have hlt := h.top.lt
  have HI := hid h
  by_cases hi : i < 1 ∨ (l.length : Int) < i
  · obtain ⟨e1, e2⟩ := getB_no (l := l) (n := i) (by omega)
    rw [e1, e2]
    have hb := (Blk.made w 46 #[.int .i64 0, .int .i64 0, .slice none 0 0])
    have c0 : (w.alloc (.cells #[.int .i64 0, .int .i64 0, .slice none 0 0] 46)).cell? ⟨w.heap.size, 0, none⟩ = some (.int .i64 0) := hb.at_ 0
    have c1 : (w.alloc (.cells #[.int .i64 0, .int .i64 0, .slice none 0 0] 46)).cell? ⟨w.heap.size, 1, none⟩ = some (.int .i64 0) := hb.at_ 1
    have c2 : (w.alloc (.cells #[.int .i64 0, .int .i64 0, .slice none 0 0] 46)).cell? ⟨w.heap.size, 2, none⟩ = some (.slice none 0 0) := hb.at_ 2
    have f0 := hb.free 0
    have f1 := hb.free 1
    have f2 := hb.free 2
    have cl : (w.alloc (.cells #[.int .i64 0, .int .i64 0, .slice none 0 0] 46)).cell? ⟨lb, 0, none⟩ = some (.slice A l.length c) := (h.top.alloc _).at_ 0
    clear h e1 e2 hb
    generalize l.length = n at *
    rcases hi with hi | hi
    all_goals
      go_enter Try.func22, Try.ntmps22
      go_wp2_with fail
      exact bodyPost_ret (v := .tuple #[.agg #[.int .i64 0, .int .i64 0, .slice none 0 0], .bool false]) (by simp [results, Try.results22, go_sem, c0, c1, c2]) rfl ⟨⟨0, 0, none, 0, 0, []⟩, rfl, EnOk.zero _ _, rfl, (Keep.refl _ w).alloc _⟩
  · obtain ⟨j, rfl⟩ : ∃ j : Nat, i = (j : Int) + 1 := ⟨(i - 1).toNat, by omega⟩
    obtain ⟨e, he⟩ := get_some (l := l) (k := j) (by omega)
    have hB : getB l ((j : Int) + 1) = true := by simp [getB]; omega
    have hE : getE l ((j : Int) + 1) = e.pe := by
      unfold getE
      rw [if_pos (by omega), show ((j : Int) + 1 - 1).toNat = j by omega, he]; rfl
    rw [hB, hE]
    have hk1 : Same w (w.alloc (.cells #[.int .i64 0, .int .i64 0, .slice none 0 0] 46)) := (Keep.refl _ w).alloc _
    have cl : (w.alloc (.cells #[.int .i64 0, .int .i64 0, .slice none 0 0] 46)).cell? ⟨lb, 0, none⟩ = some (.slice A l.length c) := (h.top.alloc _).at_ 0
    obtain ⟨b, off, rfl, c0, c1, c2⟩ := (h.ls.same hk1).at_ he
    have he8 := rightP_len (h.el e (List.mem_of_getElem? he)) (h.ok e (List.mem_of_getElem? he))
    have HE := hid ((h.el e (List.mem_of_getElem? he)).same hk1)
    have HC := hid (clone_any _ _ e HE.out he8)
    have HB := hid (Blk.made w 46 #[.int .i64 0, .int .i64 0, .slice none 0 0])
    have HK1 := hid hk1
    have hjn : j < l.length := by omega
    have h1 : ((j : Int) + 1 - 1) = j := by omega
    unfold En.val at HC
    clear h hB hE hk1 he hi
    generalize l.length = n at *
    go_enter Try.func22, Try.ntmps22
    go_wp2_with (first
      | (go_at_call 39; refine HC.out.mono ?_; rintro e' w2 ⟨B, d, rfl, he2, hk2⟩
         unfold En.val
         have hB2 := HB.out.keep hk2 (fun f => f)
         have g0 : w2.cell? ⟨w.heap.size, 0, none⟩ = some (.int .i64 0) := hB2.at_ 0
         have g1 : w2.cell? ⟨w.heap.size, 1, none⟩ = some (.int .i64 0) := hB2.at_ 1
         have g2 : w2.cell? ⟨w.heap.size, 2, none⟩ = some (.slice none 0 0) := hB2.at_ 2
         have f0 := hB2.free 0
         have f1 := hB2.free 1
         have f2 := hB2.free 2
         have HB2 := hid hB2
         have HE2 := hid he2
         have HK2 := hid hk2
         clear hB2 he2 hk2))
    generalize hW : ((w2.setCell ⟨w.heap.size, 0, none⟩ (.int .i64 e.t)).setCell ⟨w.heap.size, 1, none⟩ (.int .i64 e.k)).setCell ⟨w.heap.size, 2, none⟩ (.slice B e.m d) = W at *
    have hb3 : Blk W w.heap.size 46 #[.int .i64 e.t, .int .i64 e.k, .slice B e.m d] := by
      rw [← hW]
      exact (((HB2.out.put 0 _).put 1 _).put 2 _)
    have hk3 : Keep (· = w.heap.size) w2 W := by
      rw [← hW]
      exact (((Keep.refl _ w2).put 0 _).put 1 _).put 2 _
    have r0 : W.cell? ⟨w.heap.size, 0, none⟩ = some (.int .i64 e.t) := hb3.at_ 0
    have r1 : W.cell? ⟨w.heap.size, 1, none⟩ = some (.int .i64 e.k) := hb3.at_ 1
    have r2 : W.cell? ⟨w.heap.size, 2, none⟩ = some (.slice B e.m d) := hb3.at_ 2
    refine bodyPost_ret (v := .tuple #[.agg #[.int .i64 e.t, .int .i64 e.k, .slice B e.m d], .bool true]) (by simp [results, Try.results22, go_sem, r0, r1, r2]) rfl ⟨⟨e.t, e.k, B, e.m, d, e.body⟩, rfl, ?_, rfl, ?_⟩
    · exact (HE2.out.keep hk3 (fun i _ (hs : i = w.heap.size) => by simp [hs])).wide (fun i _ hs => by simp; omega)
    · exact (HK1.out.then HK2.out).trans hk3 (fun i hi hs => by omega)

def UpPost (w : World) (l : List En) (n t : Int) (e : Ending) (w' : World) : Prop := e = .returned (.bool (decide (lastT En.pe l < t) || (decide (t = lastT En.pe l) && decide ((l.length : Int) ≤ n)))) ∧ Same w w'
set_option maxRecDepth 100000 in
theorem uptodate_any (w : World) (Av : Nat → Prop) (lb : Nat) (r : Option Nat) (A : Option Addr) (c : Nat) (l : List En) (h : IsLog w Av lb r A c l) (hn : l.length ≤ 1000) (n t : Int) :
    Calls Try.prog 27 #[.pointer (some ⟨lb, 0, none⟩), .int .i64 n, .int .i64 t] w (UpPost w l n t) := by
  have HL := hid (last_any w Av lb r A c l h hn)
  clear h
  unfold UpPost
  generalize lastT En.pe l = T at *
  generalize l.length = m at *
  by_cases h1 : T < t
  · go_enter Try.func27, Try.ntmps27
    go_wp2_with (go_at_call 35; refine HL.out.mono ?_; rintro e w2 ⟨rfl, hk2⟩)
    go_ret
    exact ⟨by simp [h1], hk2⟩
  · by_cases h2 : t = T
    · subst h2
      go_enter Try.func27, Try.ntmps27
      go_wp2_with (go_at_call 35; refine HL.out.mono ?_; rintro e w2 ⟨rfl, hk2⟩)
      go_ret
      exact ⟨by simp, hk2⟩
    · have hf : (t == T) = false := by simpa using h2
      go_enter Try.func27, Try.ntmps27
      go_wp2_with (go_at_call 35; refine HL.out.mono ?_; rintro e w2 ⟨rfl, hk2⟩)
      go_ret
      exact ⟨by simp [h2], hk2⟩
set_option maxRecDepth 100000 in
theorem newer_any (w : World) (Av : Nat → Prop) (X : Option Addr) (m c : Nat) (l : List En) (h : Ls w Av X m c l) (hn : m ≤ 1000) (n t : Int) :
    Calls Try.prog 28 #[.slice X m c, .int .i64 n, .int .i64 t] w (UpPost w l n t) := by
  have hl := h.len
  have HL := hid (rlast_any w Av X m c l h hn)
  clear h
  unfold UpPost
  rw [hl]
  clear hl
  generalize lastT En.pe l = T at *
  by_cases h1 : T < t
  · go_enter Try.func28, Try.ntmps28
    go_wp2_with (go_at_call 42; refine HL.out.mono ?_; rintro e w2 ⟨rfl, hk2⟩)
    go_ret
    exact ⟨by simp [h1], hk2⟩
  · by_cases h2 : t = T
    · subst h2
      go_enter Try.func28, Try.ntmps28
      go_wp2_with (go_at_call 42; refine HL.out.mono ?_; rintro e w2 ⟨rfl, hk2⟩)
      go_ret
      exact ⟨by simp, hk2⟩
    · have hf : (t == T) = false := by simpa using h2
      go_enter Try.func28, Try.ntmps28
      go_wp2_with (go_at_call 42; refine HL.out.mono ?_; rintro e w2 ⟨rfl, hk2⟩)
      go_ret
      exact ⟨by simp [h2], hk2⟩
end Go.Proofs.Ytbellndcgagclaa

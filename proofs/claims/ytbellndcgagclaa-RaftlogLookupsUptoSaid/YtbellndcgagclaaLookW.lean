import Derived.Test.YtbellndcgagclaaLookQ
namespace Go.Proofs.Ytbellndcgagclaa
open Go.RowKit

theorem takeO {P : Program} {md : Region.Mode} {ops : Array Oper} {Q : Exit → Act → World → Prop} {S : World → Prop} {i : Nat} {oi : Oper} {v : Value} {fuel : Nat} {listed : Array Bool} {a : Act} {w : World}
    (hs : Region.noSelect ops = true) (hf : Region.free md ops listed i = true) (hr : (Region.ready md ops listed).contains i = true) (hQ : ∀ c a d v w, Q (.panic c) (Act.put a d v) w → Q (.panic c) a w) (hi : ops[i]? = some oi) (hy : YieldsIf P ops S oi v a) (hS : S w)
    (h : wpAnyH P md ops Q S fuel (listed.setIfInBounds i true) (a.put oi.dst v) w) : wpAnyH P md ops Q S (fuel + 1) listed a w := wpAnyH_take hi hs hf hr (fun c a w h => hQ c a _ _ w h) hy hS h
set_option maxHeartbeats 16000000 in
set_option maxRecDepth 100000 in
theorem raftlogLookups_walk (W : World) (X : Option Addr) (n c : Nat) (l : List LAct) (h : As W (fun _ => False) X n c l) (hf : Few l) (i t : Int) (hi : (Lit.int .i64 i).wf = true) :
    Calls Try.prog 7 #[.slice X n c, .int .i64 i, .int .i64 t] W (PlainPost W true) := by
  have HS := hid (fun w (hs : Same W w) => small_any w (fun _ => False) X n c l (h.same hs) hf)
  have HP := hid (fun w (hs : Same W w) => play_any w (fun _ => False) X n c l (h.same hs))
  have hi1 : -9223372036854775808 ≤ i ∧ i ≤ 9223372036854775807 := by
    simp only [Lit.wf, Bool.and_eq_true, decide_eq_true_eq] at hi
    have e1 : IntKind.i64.min = -9223372036854775808 := by rfl
    have e2 : IntKind.i64.max = 9223372036854775807 := by rfl
    omega
  obtain ⟨hi2, hi3⟩ := hi1
  clear h hf hi
  by_cases hs1 : smallA l = true
  · rw [hs1] at HS
    have hl := smallA_ok hs1
    have hq := playQ_le hl.2
    have HL := hid hl
    clear hs1 hl
    generalize playQ l = q at *
    have hHU := hid (fun w Av lb (h : LogAt w Av lb q) => uptodate_at w Av lb q h (by omega) i t)
    have hHV := hid (fun w Av X m c (h : LsQ w Av X m c q) (hm : m ≤ 1000) => newer_at w Av X m c q h hm i t)
    unfold UpPostQ at hHU hHV
    by_cases hA : 1 ≤ i ∧ i ≤ q.length
    · obtain ⟨j, rfl⟩ : ∃ j : Nat, i = (j : Int) + 1 := ⟨(i - 1).toNat, by omega⟩
      have hjq : j < q.length := by omega
      have hok := hid (show getBQ q ((j : Int) + 1) = true by simp [getBQ]; omega)
      have htb := hid (show termB q ((j : Int) + 1) = true by simp [termB]; omega)
      clear hA
      go_enter Try.func7, Try.ntmps7
      go_wp2_with (first
        | (go_at_call 11; (with_reducible refine (wakes_any _).mono ?_); rintro e w1 ⟨rfl, hk1⟩
           have HK1 := hid hk1
           have HSa := hid (HS.out _ hk1)
           clear hk1)
        | (go_at_call 12; (with_reducible refine HSa.out.mono ?_); rintro e w2 ⟨rfl, hk2⟩
           have HK2 := hid (HK1.out.then hk2)
           have HPa := hid (HP.out _ HK2.out HL.out.2 HL.out.1)
           clear hk2 HSa)
        | (go_at_call 13; (with_reducible refine HPa.out.mono ?_); rintro e w4 ⟨lb, X4, n4, c4, rfl, hB4, hk4, hlb⟩
           have HB4 := hid hB4
           have hn4 := hid hB4.len
           have HK4 := hid (HK2.out.then hk4)
           have HG := hid (get_at _ _ _ _ hB4.log (by omega) ((j : Int) + 1))
           rw [hok.out] at HG
           clear hB4 hk4 HPa)
        | (go_at_call 22; (with_reducible refine HG.out.mono ?_); rintro e w5 ⟨x0, rfl, hx0, hpe0, hk5⟩
           unfold En.val
           have HX0 := hid hx0
           have Hpe0 := hid hpe0
           have HK5 := hid hk5
           have hb := (Blk.made w5 46 #[.int .i64 0, .int .i64 0, .slice none 0 0])
           have f0 := hb.free 0
           have f1 := hb.free 1
           have f2 := hb.free 2
           have z0 : (w5.alloc (.cells #[.int .i64 0, .int .i64 0, .slice none 0 0] 46)).cell? ⟨w5.heap.size, 0, none⟩ = some (.int .i64 0) := hb.at_ 0
           have z1 : (w5.alloc (.cells #[.int .i64 0, .int .i64 0, .slice none 0 0] 46)).cell? ⟨w5.heap.size, 1, none⟩ = some (.int .i64 0) := hb.at_ 1
           have z2 : (w5.alloc (.cells #[.int .i64 0, .int .i64 0, .slice none 0 0] 46)).cell? ⟨w5.heap.size, 2, none⟩ = some (.slice none 0 0) := hb.at_ 2
           have HB := hid (Blk.made w5 46 #[.int .i64 x0.t, .int .i64 x0.k, .slice x0.A x0.m x0.c])
           have HK6 := hid (hk5.alloc (.cells #[.int .i64 x0.t, .int .i64 x0.k, .slice x0.A x0.m x0.c] 46))
           have HT := hid (term_at _ _ _ _ ((HB4.out.keep HK6.out).log) (by omega) ((j : Int) + 1))
           have HT2 := hid (fun w (hs : Same w4 w) => rterm_at w _ _ _ _ _ ((HB4.out.keep hs).ls) (by have := hn4.out; omega) ((j : Int) + 1))
           rw [htb.out] at HT HT2
           generalize termT id q ((j : Int) + 1) = T at *
           clear hx0 hpe0 hk5 hb HG)
        | (go_at_call 23; (with_reducible refine HT.out.mono ?_); rintro e w8 ⟨rfl, hk8⟩
           have HK8 := hid (HK6.out.then hk8)
           have HB8 := hid (HB.out.keep hk8 (fun f => f))
           have HK68 := hid hk8
           have HT3 := hid (HT2.out _ HK8.out)
           clear hk8 HT)
        | (go_at_call 24; (with_reducible refine HT3.out.mono ?_); rintro e w9 ⟨rfl, hk9⟩
           have HK9 := hid (HK8.out.then hk9)
           have HB9 := hid (HB8.out.keep hk9 (fun f => f))
           have HK69 := hid (HK68.out.then hk9)
           clear hk9 HT3))
      have y0 : w9.cell? ⟨w5.heap.size, 0, none⟩ = some (.int .i64 x0.t) := HB9.out.at_ 0
      have y1 : w9.cell? ⟨w5.heap.size, 1, none⟩ = some (.int .i64 x0.k) := HB9.out.at_ 1
      have y2 : w9.cell? ⟨w5.heap.size, 2, none⟩ = some (.slice x0.A x0.m x0.c) := HB9.out.at_ 2
      have HX9 := hid ((HX0.out.wide (Av' := fun _ => False) (fun _ _ f => f.elim)).same (((Keep.refl _ w5).alloc (.cells #[.int .i64 x0.t, .int .i64 x0.k, .slice x0.A x0.m x0.c] 46)).then (show Same (w5.alloc (.cells #[.int .i64 x0.t, .int .i64 x0.k, .slice x0.A x0.m x0.c] 46)) w9 from HK69.out)))
      obtain ⟨ml, hml, hmq⟩ := (HB4.out.keep HK9.out).ls
      obtain ⟨x, hx⟩ := get_some (l := ml) (k := j) (by have := hml.len; have := hn4.out; omega)
      obtain ⟨b, off, rfl, c0, c1, c2⟩ := hml.at_ hx
      have hxq := hid (show x.pe = x0.pe by
        rw [Hpe0.out]
        have h1 := congrArg (fun z : List PE => z[j]?) hmq
        simp only [List.getElem?_map, hx, Option.map_some] at h1
        unfold getQ
        rw [if_pos (by omega), show ((j : Int) + 1 - 1).toNat = j by omega, ← h1]; rfl)
      have HC := hid (alike_any w9.drew _ x0 x (HX9.out.same (Keep.refl _ w9).drew) ((hml.el x (List.mem_of_getElem? hx)).same (Keep.refl _ w9).drew))
      have hpq : peq x0.pe x.pe = true := by simp [peq, hxq.out]
      rw [hpq] at HC
      unfold En.val at HC
      have HML := hid hml
      have Hx := hid hx
      have hjn : (j : Int) < (n4 : Int) := by have := hn4.out; omega
      have hj1 : IntKind.i64.wrap (j : Int) = (j : Int) := IntWalk.i64_in _ ⟨by omega, by omega⟩
      have hj2 : IntKind.i64.wrap ((j : Int) + 1 - 1) = (j : Int) := by simp [hj1]
      have hj0 : (0 : Int) ≤ (j : Int) := by omega
      have hjz : decide ((0 : Int) < (j : Int) + 1) = true := by first | (simp; done) | (simp; omega)
      clear hml hmq hx hpq
      refine wp_region_held_drew (S := fun W => W.cell? ⟨w5.heap.size, 0, none⟩ = some (.int .i64 x0.t) ∧ W.cell? ⟨w5.heap.size, 1, none⟩ = some (.int .i64 x0.k) ∧ W.cell? ⟨w5.heap.size, 2, none⟩ = some (.slice x0.A x0.m x0.c) ∧ W.cell? ⟨b, off + j * 3, none⟩ = some (.int .i64 x.t) ∧ W.cell? ⟨b, off + j * 3 + 1, none⟩ = some (.int .i64 x.k) ∧ W.cell? ⟨b, off + j * 3 + 2, none⟩ = some (.slice x.A x.m x.c)) (by kernel_rfl) ⟨y0, y1, y2, c0, c1, c2⟩ (fun hHeld => ?_)
      refine takeO (i := 0) (v := ?_) (by kernel_rfl) (by kernel_rfl) (by kernel_rfl) (fun c a d v w h => by cases d <;> exact h) (oi := ?_) ?_ ?_ (by assumption) ?_
      rotate_left 2
      · (simp only [List.getElem?_toArray, List.getElem?_cons_zero]; rfl)
      · (refine Or.inl ⟨by rfl, ?_⟩; intro w hSw; (try dsimp only at hSw); go_simp; try with_reducible rfl)
      try simp only [Act.put, List.setIfInBounds_toArray, List.set_cons_zero, List.set_cons_succ]
      refine takeO (i := 1) (v := ?_) (by kernel_rfl) (by kernel_rfl) (by kernel_rfl) (fun c a d v w h => by cases d <;> exact h) (oi := ?_) ?_ ?_ (by assumption) ?_
      rotate_left 2
      · (simp only [List.getElem?_toArray, List.getElem?_cons_succ, List.getElem?_cons_zero]; rfl)
      · (refine Or.inl ⟨by rfl, ?_⟩; intro w hSw; (try dsimp only at hSw); go_simp; try with_reducible rfl)
      try simp only [Act.put, List.setIfInBounds_toArray, List.set_cons_zero, List.set_cons_succ]
      refine takeO (i := 2) (v := ?_) (by kernel_rfl) (by kernel_rfl) (by kernel_rfl) (fun c a d v w h => by cases d <;> exact h) (oi := ?_) ?_ ?_ (by assumption) ?_
      rotate_left 2
      · (simp only [List.getElem?_toArray, List.getElem?_cons_succ, List.getElem?_cons_zero]; rfl)
      · (refine Or.inl ⟨by rfl, ?_⟩; intro w hSw; (try dsimp only at hSw); go_simp; try with_reducible rfl)
      try simp only [Act.put, List.setIfInBounds_toArray, List.set_cons_zero, List.set_cons_succ]
      refine takeO (i := 3) (v := ?_) (by kernel_rfl) (by kernel_rfl) (by kernel_rfl) (fun c a d v w h => by cases d <;> exact h) (oi := ?_) ?_ ?_ (by assumption) ?_
      rotate_left 2
      · (simp only [List.getElem?_toArray, List.getElem?_cons_succ, List.getElem?_cons_zero]; rfl)
      · (refine Or.inl ⟨by rfl, ?_⟩; intro w hSw; (try dsimp only at hSw); go_simp; try with_reducible rfl)
      try simp only [Act.put, List.setIfInBounds_toArray, List.set_cons_zero, List.set_cons_succ]
      refine takeO (i := 4) (v := ?_) (by kernel_rfl) (by kernel_rfl) (by kernel_rfl) (fun c a d v w h => by cases d <;> exact h) (oi := ?_) ?_ ?_ (by assumption) ?_
      rotate_left 2
      · (simp only [List.getElem?_toArray, List.getElem?_cons_succ, List.getElem?_cons_zero]; rfl)
      · (refine Or.inl ⟨by rfl, ?_⟩; intro w hSw; (try dsimp only at hSw); go_simp; try with_reducible rfl)
      try simp only [Act.put, List.setIfInBounds_toArray, List.set_cons_zero, List.set_cons_succ]
      refine takeO (i := 5) (v := ?_) (by kernel_rfl) (by kernel_rfl) (by kernel_rfl) (fun c a d v w h => by cases d <;> exact h) (oi := ?_) ?_ ?_ (by assumption) ?_
      rotate_left 2
      · (simp only [List.getElem?_toArray, List.getElem?_cons_succ, List.getElem?_cons_zero]; rfl)
      · (refine Or.inl ⟨by rfl, ?_⟩; intro w hSw; (try dsimp only at hSw); go_simp; try with_reducible rfl)
      try simp only [Act.put, List.setIfInBounds_toArray, List.set_cons_zero, List.set_cons_succ]
      refine takeO (i := 6) (v := ?_) (by kernel_rfl) (by kernel_rfl) (by kernel_rfl) (fun c a d v w h => by cases d <;> exact h) (oi := ?_) ?_ ?_ (by assumption) ?_
      rotate_left 2
      · (simp only [List.getElem?_toArray, List.getElem?_cons_succ, List.getElem?_cons_zero]; rfl)
      · (refine Or.inl ⟨by rfl, ?_⟩; intro w hSw; (try dsimp only at hSw); go_simp; try with_reducible rfl)
      try simp only [Act.put, List.setIfInBounds_toArray, List.set_cons_zero, List.set_cons_succ]
      refine takeO (i := 7) (v := ?_) (by kernel_rfl) (by kernel_rfl) (by kernel_rfl) (fun c a d v w h => by cases d <;> exact h) (oi := ?_) ?_ ?_ (by assumption) ?_
      rotate_left 2
      · (simp only [List.getElem?_toArray, List.getElem?_cons_succ, List.getElem?_cons_zero]; rfl)
      · (refine Or.inl ⟨by rfl, ?_⟩; intro w hSw; (try dsimp only at hSw); go_simp; try with_reducible rfl)
      try simp only [Act.put, List.setIfInBounds_toArray, List.set_cons_zero, List.set_cons_succ]
      refine takeO (i := 8) (v := ?_) (by kernel_rfl) (by kernel_rfl) (by kernel_rfl) (fun c a d v w h => by cases d <;> exact h) (oi := ?_) ?_ ?_ (by assumption) ?_
      rotate_left 2
      · (simp only [List.getElem?_toArray, List.getElem?_cons_succ, List.getElem?_cons_zero]; rfl)
      · (refine Or.inl ⟨by rfl, ?_⟩; intro w hSw; (try dsimp only at hSw); go_simp; try with_reducible rfl)
      try simp only [Act.put, List.setIfInBounds_toArray, List.set_cons_zero, List.set_cons_succ]
      refine takeO (i := 9) (v := ?_) (by kernel_rfl) (by kernel_rfl) (by kernel_rfl) (fun c a d v w h => by cases d <;> exact h) (oi := ?_) ?_ ?_ (by assumption) ?_
      rotate_left 2
      · (simp only [List.getElem?_toArray, List.getElem?_cons_succ, List.getElem?_cons_zero]; rfl)
      · (refine Or.inl ⟨by rfl, ?_⟩; intro w hSw; (try dsimp only at hSw); go_simp; try with_reducible rfl)
      try simp only [Act.put, List.setIfInBounds_toArray, List.set_cons_zero, List.set_cons_succ]
      refine takeO (i := 10) (v := ?_) (by kernel_rfl) (by kernel_rfl) (by kernel_rfl) (fun c a d v w h => by cases d <;> exact h) (oi := ?_) ?_ ?_ (by assumption) ?_
      rotate_left 2
      · (simp only [List.getElem?_toArray, List.getElem?_cons_succ, List.getElem?_cons_zero]; rfl)
      · (refine Or.inl ⟨by rfl, ?_⟩; intro w hSw; (try dsimp only at hSw); go_simp; try with_reducible rfl)
      try simp only [Act.put, List.setIfInBounds_toArray, List.set_cons_zero, List.set_cons_succ]
      refine takeO (i := 11) (v := ?_) (by kernel_rfl) (by kernel_rfl) (by kernel_rfl) (fun c a d v w h => by cases d <;> exact h) (oi := ?_) ?_ ?_ (by assumption) ?_
      rotate_left 2
      · (simp only [List.getElem?_toArray, List.getElem?_cons_succ, List.getElem?_cons_zero]; rfl)
      · (refine Or.inl ⟨by rfl, ?_⟩; intro w hSw; (try dsimp only at hSw); go_simp; try with_reducible rfl)
      try simp only [Act.put, List.setIfInBounds_toArray, List.set_cons_zero, List.set_cons_succ]
      refine takeO (i := 12) (v := ?_) (by kernel_rfl) (by kernel_rfl) (by kernel_rfl) (fun c a d v w h => by cases d <;> exact h) (oi := ?_) ?_ ?_ (by assumption) ?_
      rotate_left 2
      · (simp only [List.getElem?_toArray, List.getElem?_cons_succ, List.getElem?_cons_zero]; rfl)
      · (refine Or.inl ⟨by rfl, ?_⟩; intro w hSw; (try dsimp only at hSw); go_simp; try with_reducible rfl)
      try simp only [Act.put, List.setIfInBounds_toArray, List.set_cons_zero, List.set_cons_succ]
      refine takeO (i := 13) (v := ?_) (by kernel_rfl) (by kernel_rfl) (by kernel_rfl) (fun c a d v w h => by cases d <;> exact h) (oi := ?_) ?_ ?_ (by assumption) ?_
      rotate_left 2
      · (simp only [List.getElem?_toArray, List.getElem?_cons_succ, List.getElem?_cons_zero]; rfl)
      · (refine Or.inl ⟨by rfl, ?_⟩; intro w hSw; (try dsimp only at hSw); go_simp; try with_reducible rfl)
      try simp only [Act.put, List.setIfInBounds_toArray, List.set_cons_zero, List.set_cons_succ]
      refine takeO (i := 14) (v := ?_) (by kernel_rfl) (by kernel_rfl) (by kernel_rfl) (fun c a d v w h => by cases d <;> exact h) (oi := ?_) ?_ ?_ (by assumption) ?_
      rotate_left 2
      · (simp only [List.getElem?_toArray, List.getElem?_cons_succ, List.getElem?_cons_zero]; rfl)
      · (refine Or.inl ⟨by rfl, ?_⟩; intro w hSw; (try dsimp only at hSw); go_simp; try with_reducible rfl)
      try simp only [Act.put, List.setIfInBounds_toArray, List.set_cons_zero, List.set_cons_succ]
      refine takeO (i := 15) (v := ?_) (by kernel_rfl) (by kernel_rfl) (by kernel_rfl) (fun c a d v w h => by cases d <;> exact h) (oi := ?_) ?_ ?_ (by assumption) ?_
      rotate_left 2
      · (simp only [List.getElem?_toArray, List.getElem?_cons_succ, List.getElem?_cons_zero]; rfl)
      · (refine Or.inl ⟨by rfl, ?_⟩; intro w hSw; (try dsimp only at hSw); go_simp; try with_reducible rfl)
      try simp only [Act.put, List.setIfInBounds_toArray, List.set_cons_zero, List.set_cons_succ]
      refine takeO (i := 16) (v := ?_) (by kernel_rfl) (by kernel_rfl) (by kernel_rfl) (fun c a d v w h => by cases d <;> exact h) (oi := ?_) ?_ ?_ (by assumption) ?_
      rotate_left 2
      · (simp only [List.getElem?_toArray, List.getElem?_cons_succ, List.getElem?_cons_zero]; rfl)
      · (refine Or.inl ⟨by rfl, ?_⟩; intro w hSw; (try dsimp only at hSw); go_simp; try with_reducible rfl)
      try simp only [Act.put, List.setIfInBounds_toArray, List.set_cons_zero, List.set_cons_succ]
      refine takeO (i := 17) (v := ?_) (by kernel_rfl) (by kernel_rfl) (by kernel_rfl) (fun c a d v w h => by cases d <;> exact h) (oi := ?_) ?_ ?_ (by assumption) ?_
      rotate_left 2
      · (simp only [List.getElem?_toArray, List.getElem?_cons_succ, List.getElem?_cons_zero]; rfl)
      · (refine Or.inl ⟨by rfl, ?_⟩; intro w hSw; (try dsimp only at hSw); go_simp; try with_reducible rfl)
      try simp only [Act.put, List.setIfInBounds_toArray, List.set_cons_zero, List.set_cons_succ]
      refine takeO (i := 18) (v := ?_) (by kernel_rfl) (by kernel_rfl) (by kernel_rfl) (fun c a d v w h => by cases d <;> exact h) (oi := ?_) ?_ ?_ (by assumption) ?_
      rotate_left 2
      · (simp only [List.getElem?_toArray, List.getElem?_cons_succ, List.getElem?_cons_zero]; rfl)
      · (refine Or.inl ⟨by rfl, ?_⟩; intro w hSw; (try dsimp only at hSw); go_simp; try with_reducible rfl)
      try simp only [Act.put, List.setIfInBounds_toArray, List.set_cons_zero, List.set_cons_succ]
      refine takeO (i := 19) (v := ?_) (by kernel_rfl) (by kernel_rfl) (by kernel_rfl) (fun c a d v w h => by cases d <;> exact h) (oi := ?_) ?_ ?_ (by assumption) ?_
      rotate_left 2
      · (simp only [List.getElem?_toArray, List.getElem?_cons_succ, List.getElem?_cons_zero]; rfl)
      · (refine Or.inl ⟨by rfl, ?_⟩; intro w hSw; (try dsimp only at hSw); go_simp; try with_reducible rfl)
      try simp only [Act.put, List.setIfInBounds_toArray, List.set_cons_zero, List.set_cons_succ]
      refine takeO (i := 20) (v := ?_) (by kernel_rfl) (by kernel_rfl) (by kernel_rfl) (fun c a d v w h => by cases d <;> exact h) (oi := ?_) ?_ ?_ (by assumption) ?_
      rotate_left 2
      · (simp only [List.getElem?_toArray, List.getElem?_cons_succ, List.getElem?_cons_zero]; rfl)
      · (refine Or.inl ⟨by rfl, ?_⟩; intro w hSw; (try dsimp only at hSw); go_simp; try with_reducible rfl)
      try simp only [Act.put, List.setIfInBounds_toArray, List.set_cons_zero, List.set_cons_succ]
      refine takeO (i := 21) (v := ?_) (by kernel_rfl) (by kernel_rfl) (by kernel_rfl) (fun c a d v w h => by cases d <;> exact h) (oi := ?_) ?_ ?_ (by assumption) ?_
      rotate_left 2
      · (simp only [List.getElem?_toArray, List.getElem?_cons_succ, List.getElem?_cons_zero]; rfl)
      · (refine Or.inl ⟨by rfl, ?_⟩; intro w hSw; (try dsimp only at hSw); go_simp; try with_reducible rfl)
      try simp only [Act.put, List.setIfInBounds_toArray, List.set_cons_zero, List.set_cons_succ]
      refine takeO (i := 22) (v := ?_) (by kernel_rfl) (by kernel_rfl) (by kernel_rfl) (fun c a d v w h => by cases d <;> exact h) (oi := ?_) ?_ ?_ (by assumption) ?_
      rotate_left 2
      · (simp only [List.getElem?_toArray, List.getElem?_cons_succ, List.getElem?_cons_zero]; rfl)
      · (refine Or.inl ⟨by rfl, ?_⟩; intro w hSw; (try dsimp only at hSw); go_simp; try with_reducible rfl)
      try simp only [Act.put, List.setIfInBounds_toArray, List.set_cons_zero, List.set_cons_succ]
      refine takeO (i := 23) (v := ?_) (by kernel_rfl) (by kernel_rfl) (by kernel_rfl) (fun c a d v w h => by cases d <;> exact h) (oi := ?_) ?_ ?_ (by assumption) ?_
      rotate_left 2
      · (simp only [List.getElem?_toArray, List.getElem?_cons_succ, List.getElem?_cons_zero]; rfl)
      · (refine Or.inl ⟨by rfl, ?_⟩; intro w hSw; (try dsimp only at hSw); go_simp; try with_reducible rfl)
      try simp only [Act.put, List.setIfInBounds_toArray, List.set_cons_zero, List.set_cons_succ]
      refine takeO (i := 24) (v := ?_) (by kernel_rfl) (by kernel_rfl) (by kernel_rfl) (fun c a d v w h => by cases d <;> exact h) (oi := ?_) ?_ ?_ (by assumption) ?_
      rotate_left 2
      · (simp only [List.getElem?_toArray, List.getElem?_cons_succ, List.getElem?_cons_zero]; rfl)
      · (refine Or.inl ⟨by rfl, ?_⟩; intro w hSw; (try dsimp only at hSw); go_simp; try with_reducible rfl)
      try simp only [Act.put, List.setIfInBounds_toArray, List.set_cons_zero, List.set_cons_succ]
      refine takeO (i := 25) (v := ?_) (by kernel_rfl) (by kernel_rfl) (by kernel_rfl) (fun c a d v w h => by cases d <;> exact h) (oi := ?_) ?_ ?_ (by assumption) ?_
      rotate_left 2
      · (simp only [List.getElem?_toArray, List.getElem?_cons_succ, List.getElem?_cons_zero]; rfl)
      · (refine Or.inl ⟨by rfl, ?_⟩; intro w hSw; (try dsimp only at hSw); go_simp; try with_reducible rfl)
      try simp only [Act.put, List.setIfInBounds_toArray, List.set_cons_zero, List.set_cons_succ]
      refine wpAnyH_ready (rs := [26]) (by kernel_rfl) (by simp) ?_
      refine AllReadyH.cons rfl (fun K hK => ?_) AllReadyH.nil
      go_simp
      refine HC.out.mono ?_
      rintro e w10 ⟨rfl, hk10⟩
      have HK10 := hid (HK9.out.drew.then hk10)
      have hk9d : Same w9 w10 := ((Keep.refl _ w9).drew).then hk10
      refine hK.out _ _ (by
        obtain ⟨x1, y1, e1, g0, g1, g2⟩ := (HML.out.same hk9d).at_ Hx.out
        cases e1
        exact ⟨(HB9.out.keep hk9d (fun f => f)).at_ 0, (HB9.out.keep hk9d (fun f => f)).at_ 1, (HB9.out.keep hk9d (fun f => f)).at_ 2, g0, g1, g2⟩) (fun hHeld2 => ?_)
      clear hK K hk10 hk9d hHeld
      try simp only [Act.put, List.setIfInBounds_toArray, List.set_cons_zero, List.set_cons_succ]
      refine takeO (i := 27) (v := ?_) (by kernel_rfl) (by kernel_rfl) (by kernel_rfl) (fun c a d v w h => by cases d <;> exact h) (oi := ?_) ?_ ?_ (by assumption) ?_
      rotate_left 2
      · (simp only [List.getElem?_toArray, List.getElem?_cons_succ, List.getElem?_cons_zero]; rfl)
      · (refine Or.inl ⟨by rfl, ?_⟩; intro w hSw; (try dsimp only at hSw); go_simp; try with_reducible rfl)
      try simp only [Act.put, List.setIfInBounds_toArray, List.set_cons_zero, List.set_cons_succ]
      refine takeO (i := 28) (v := ?_) (by kernel_rfl) (by kernel_rfl) (by kernel_rfl) (fun c a d v w h => by cases d <;> exact h) (oi := ?_) ?_ ?_ (by assumption) ?_
      rotate_left 2
      · (simp only [List.getElem?_toArray, List.getElem?_cons_succ, List.getElem?_cons_zero]; rfl)
      · (refine Or.inl ⟨by rfl, ?_⟩; intro w hSw; (try dsimp only at hSw); go_simp; try with_reducible rfl)
      try simp only [Act.put, List.setIfInBounds_toArray, List.set_cons_zero, List.set_cons_succ]
      refine takeO (i := 29) (v := ?_) (by kernel_rfl) (by kernel_rfl) (by kernel_rfl) (fun c a d v w h => by cases d <;> exact h) (oi := ?_) ?_ ?_ (by assumption) ?_
      rotate_left 2
      · (simp only [List.getElem?_toArray, List.getElem?_cons_succ, List.getElem?_cons_zero]; rfl)
      · (refine Or.inl ⟨by rfl, ?_⟩; intro w hSw; (try dsimp only at hSw); go_simp; try with_reducible rfl)
      try simp only [Act.put, List.setIfInBounds_toArray, List.set_cons_zero, List.set_cons_succ]
      refine takeO (i := 30) (v := ?_) (by kernel_rfl) (by kernel_rfl) (by kernel_rfl) (fun c a d v w h => by cases d <;> exact h) (oi := ?_) ?_ ?_ (by assumption) ?_
      rotate_left 2
      · (simp only [List.getElem?_toArray, List.getElem?_cons_succ, List.getElem?_cons_zero]; rfl)
      · (refine Or.inl ⟨by rfl, ?_⟩; intro w hSw; (try dsimp only at hSw); go_simp; try with_reducible rfl)
      try simp only [Act.put, List.setIfInBounds_toArray, List.set_cons_zero, List.set_cons_succ]
      refine takeO (i := 31) (v := ?_) (by kernel_rfl) (by kernel_rfl) (by kernel_rfl) (fun c a d v w h => by cases d <;> exact h) (oi := ?_) ?_ ?_ (by assumption) ?_
      rotate_left 2
      · (simp only [List.getElem?_toArray, List.getElem?_cons_succ, List.getElem?_cons_zero]; rfl)
      · (refine Or.inl ⟨by rfl, ?_⟩; intro w hSw; (try dsimp only at hSw); go_simp; try with_reducible rfl)
      try simp only [Act.put, List.setIfInBounds_toArray, List.set_cons_zero, List.set_cons_succ]
      refine takeO (i := 32) (v := ?_) (by kernel_rfl) (by kernel_rfl) (by kernel_rfl) (fun c a d v w h => by cases d <;> exact h) (oi := ?_) ?_ ?_ (by assumption) ?_
      rotate_left 2
      · (simp only [List.getElem?_toArray, List.getElem?_cons_succ, List.getElem?_cons_zero]; rfl)
      · (refine Or.inl ⟨by rfl, ?_⟩; intro w hSw; (try dsimp only at hSw); go_simp; try with_reducible rfl)
      try simp only [Act.put, List.setIfInBounds_toArray, List.set_cons_zero, List.set_cons_succ]
      refine takeO (i := 33) (v := ?_) (by kernel_rfl) (by kernel_rfl) (by kernel_rfl) (fun c a d v w h => by cases d <;> exact h) (oi := ?_) ?_ ?_ (by assumption) ?_
      rotate_left 2
      · (simp only [List.getElem?_toArray, List.getElem?_cons_succ, List.getElem?_cons_zero]; rfl)
      · (refine Or.inl ⟨by rfl, ?_⟩; intro w hSw; (try dsimp only at hSw); go_simp; try with_reducible rfl)
      try simp only [Act.put, List.setIfInBounds_toArray, List.set_cons_zero, List.set_cons_succ]
      refine takeO (i := 34) (v := undef) (by kernel_rfl) (by kernel_rfl) (by kernel_rfl) (fun c a d v w h => by cases d <;> exact h) (oi := ?_) ?_ ?_ (by assumption) ?_
      rotate_left 1
      · (simp only [List.getElem?_toArray, List.getElem?_cons_succ, List.getElem?_cons_zero]; rfl)
      · exact Or.inr ⟨by rfl, rfl⟩
      try simp only [Act.put, List.setIfInBounds_toArray, List.set_cons_zero, List.set_cons_succ]
      refine takeO (i := 35) (v := undef) (by kernel_rfl) (by kernel_rfl) (by kernel_rfl) (fun c a d v w h => by cases d <;> exact h) (oi := ?_) ?_ ?_ (by assumption) ?_
      rotate_left 1
      · (simp only [List.getElem?_toArray, List.getElem?_cons_succ, List.getElem?_cons_zero]; rfl)
      · exact Or.inr ⟨by rfl, rfl⟩
      try simp only [Act.put, List.setIfInBounds_toArray, List.set_cons_zero, List.set_cons_succ]
      refine takeO (i := 36) (v := undef) (by kernel_rfl) (by kernel_rfl) (by kernel_rfl) (fun c a d v w h => by cases d <;> exact h) (oi := ?_) ?_ ?_ (by assumption) ?_
      rotate_left 1
      · (simp only [List.getElem?_toArray, List.getElem?_cons_succ, List.getElem?_cons_zero]; rfl)
      · exact Or.inr ⟨by rfl, rfl⟩
      try simp only [Act.put, List.setIfInBounds_toArray, List.set_cons_zero, List.set_cons_succ]
      refine takeO (i := 37) (v := undef) (by kernel_rfl) (by kernel_rfl) (by kernel_rfl) (fun c a d v w h => by cases d <;> exact h) (oi := ?_) ?_ ?_ (by assumption) ?_
      rotate_left 1
      · (simp only [List.getElem?_toArray, List.getElem?_cons_succ, List.getElem?_cons_zero]; rfl)
      · exact Or.inr ⟨by rfl, rfl⟩
      try simp only [Act.put, List.setIfInBounds_toArray, List.set_cons_zero, List.set_cons_succ]
      refine takeO (i := 38) (v := ?_) (by kernel_rfl) (by kernel_rfl) (by kernel_rfl) (fun c a d v w h => by cases d <;> exact h) (oi := ?_) ?_ ?_ (by assumption) ?_
      rotate_left 2
      · (simp only [List.getElem?_toArray, List.getElem?_cons_succ, List.getElem?_cons_zero]; rfl)
      · (refine Or.inl ⟨by rfl, ?_⟩; intro w hSw; (try dsimp only at hSw); go_simp; try with_reducible rfl)
      try simp only [Act.put, List.setIfInBounds_toArray, List.set_cons_zero, List.set_cons_succ]
      refine takeO (i := 39) (v := ?_) (by kernel_rfl) (by kernel_rfl) (by kernel_rfl) (fun c a d v w h => by cases d <;> exact h) (oi := ?_) ?_ ?_ (by assumption) ?_
      rotate_left 2
      · (simp only [List.getElem?_toArray, List.getElem?_cons_succ, List.getElem?_cons_zero]; rfl)
      · (refine Or.inl ⟨by rfl, ?_⟩; intro w hSw; (try dsimp only at hSw); go_simp; try with_reducible rfl)
      try simp only [Act.put, List.setIfInBounds_toArray, List.set_cons_zero, List.set_cons_succ]
      refine wpAnyH_done (by kernel_rfl) ?_ _
      go_wp2_with fail
      go_loopw [84] (fun v wr => ∃ k : Nat, k ≤ 4 ∧ v = .int .i64 k ∧ Hid (Same w4 wr)) (fun v _ => 4 - (RowKit.intOf v).toNat)
      case atStart => exact ⟨0, by omega, rfl, HK10⟩
      case round =>
        obtain ⟨k, hk, rfl, HK⟩ := hrel
        have HBr := hid (HB4.out.keep HK.out)
        by_cases hk4 : k < 4
        · have hk1 : (k : Int) < 4 := by omega
          have hn5 := hn4.out
          have HA := hid (slice_at wr _ _ _ HBr.out.log (by omega) ((j : Int) + 1) ((k : Int) - 1))
          have HF := hid (fun w (hs : Same wr w) => from_at w _ _ _ _ (HBr.out.ls.same hs) (by omega) ((j : Int) + 1) ((k : Int) - 1))
          have hle := fromQ_len q ((j : Int) + 1) ((k : Int) - 1)
          generalize fromQ q ((j : Int) + 1) ((k : Int) - 1) = fq at *
          clear hn5
          go_wp2_with (first
            | (go_at_call 20; (with_reducible refine HA.out.mono ?_); rintro e w11 ⟨Y, p, d, l', rfl, hl', hm', hk11⟩
               have hlq := hid (show LsQ w11 _ Y p d fq from ⟨l', hl', hm'⟩)
               have HK11 := hid hk11
               have HF2 := hid (HF.out _ hk11)
               clear hl' hm' hk11 HA)
            | (go_at_call 26; (with_reducible refine HF2.out.mono ?_); rintro e w12 ⟨Z, p2, d2, rfl, hz, hk12⟩
               have HK12 := hid (HK11.out.then hk12)
               have hp1 := hlq.out.len
               have hp2 := hz.len
               have HE := hid (same_at w12 _ _ _ _ _ _ _ _ _ _ (hlq.out.same hk12) hz (by omega) (by omega))
               rw [decide_eq_true rfl] at HE
               clear hz hk12 HF2 hp1 hp2)
            | (go_at_call 21; (with_reducible refine HE.out.mono ?_); rintro e w13 ⟨rfl, hk13⟩
               have HK13 := hid (HK12.out.then hk13)
               clear hk13 HE))
          go_roundw
          case rel => exact ⟨k + 1, by omega, by go_num, hid (HK.out.then HK13.out)⟩
          case measure => simp [RowKit.intOf]; omega
        · obtain rfl : k = 4 := by omega
          have HU := hid (hHU.out wr _ _ HBr.out.log)
          have HV := hid (fun w (hs : Same wr w) => hHV.out w _ _ _ _ (HBr.out.ls.same hs) (by have := hn4.out; omega))
          clear hHU hHV
          generalize (decide (lastT id q < t) || (decide (t = lastT id q) && decide ((q.length : Int) ≤ ((j : Int) + 1)))) = bb at *
          go_wp2_with (first
            | (go_at_call 27; (with_reducible refine HU.out.mono ?_); rintro e w14 ⟨rfl, hk14⟩
               have HK14 := hid hk14
               have HV2 := hid (HV.out _ hk14)
               clear hk14 HU)
            | (go_at_call 28; (with_reducible refine HV2.out.mono ?_); rintro e w15 ⟨rfl, hk15⟩
               have HK15 := hid (HK14.out.then hk15)
               clear hk15 HV2))
          go_ret
          exact ⟨by simp, HK4.out.then (HK.out.then HK15.out)⟩
    · have hgz : Hid (getQ q i = (0, 0, [])) := hid (by
        unfold getQ
        split
        · rw [List.getElem?_eq_none (by omega)]; rfl
        · rfl)
      have hok := hid (show getBQ q i = false by
        simp only [getBQ]
        by_cases h0 : 1 ≤ i
        · have : ¬ i ≤ q.length := by omega
          simp [this]
        · simp [h0])
      by_cases h0 : i = 0
      · subst h0
        have htb := hid (show termB q 0 = true by simp [termB])
        clear hA
        go_enter Try.func7, Try.ntmps7
        go_wp2_with (first
          | (go_at_call 11; (with_reducible refine (wakes_any _).mono ?_); rintro e w1 ⟨rfl, hk1⟩
             have HK1 := hid hk1
             have HSa := hid (HS.out _ hk1)
             clear hk1)
          | (go_at_call 12; (with_reducible refine HSa.out.mono ?_); rintro e w2 ⟨rfl, hk2⟩
             have HK2 := hid (HK1.out.then hk2)
             have HPa := hid (HP.out _ HK2.out HL.out.2 HL.out.1)
             clear hk2 HSa)
          | (go_at_call 13; (with_reducible refine HPa.out.mono ?_); rintro e w4 ⟨lb, X4, n4, c4, rfl, hB4, hk4, hlb⟩
             have HB4 := hid hB4
             have hn4 := hid hB4.len
             have HK4 := hid (HK2.out.then hk4)
             have HG := hid (get_at _ _ _ _ hB4.log (by omega) 0)
             rw [hok.out] at HG
             clear hB4 hk4 HPa)
          | (go_at_call 22; (with_reducible refine HG.out.mono ?_); rintro e w5 ⟨x0, rfl, hx0, hpe0, hk5⟩
             unfold En.val
             have HX0 := hid hx0
             have Hpe0 := hid hpe0
             have HK5 := hid hk5
             have hb := (Blk.made w5 46 #[.int .i64 0, .int .i64 0, .slice none 0 0])
             have f0 := hb.free 0
             have f1 := hb.free 1
             have f2 := hb.free 2
             have z0 : (w5.alloc (.cells #[.int .i64 0, .int .i64 0, .slice none 0 0] 46)).cell? ⟨w5.heap.size, 0, none⟩ = some (.int .i64 0) := hb.at_ 0
             have z1 : (w5.alloc (.cells #[.int .i64 0, .int .i64 0, .slice none 0 0] 46)).cell? ⟨w5.heap.size, 1, none⟩ = some (.int .i64 0) := hb.at_ 1
             have z2 : (w5.alloc (.cells #[.int .i64 0, .int .i64 0, .slice none 0 0] 46)).cell? ⟨w5.heap.size, 2, none⟩ = some (.slice none 0 0) := hb.at_ 2
             have HB := hid (Blk.made w5 46 #[.int .i64 x0.t, .int .i64 x0.k, .slice x0.A x0.m x0.c])
             have HK6 := hid (hk5.alloc (.cells #[.int .i64 x0.t, .int .i64 x0.k, .slice x0.A x0.m x0.c] 46))
             have HT := hid (term_at _ _ _ _ ((HB4.out.keep HK6.out).log) (by omega) 0)
             have HT2 := hid (fun w (hs : Same w4 w) => rterm_at w _ _ _ _ _ ((HB4.out.keep hs).ls) (by have := hn4.out; omega) 0)
             rw [htb.out] at HT HT2
             generalize termT id q 0 = T at *
             clear hx0 hpe0 hk5 hb HG)
          | (go_at_call 23; (with_reducible refine HT.out.mono ?_); rintro e w8 ⟨rfl, hk8⟩
             have HK8 := hid (HK6.out.then hk8)
             have HB8 := hid (HB.out.keep hk8 (fun f => f))
             have HK68 := hid hk8
             have HT3 := hid (HT2.out _ HK8.out)
             clear hk8 HT)
          | (go_at_call 24; (with_reducible refine HT3.out.mono ?_); rintro e w9 ⟨rfl, hk9⟩
             have HK9 := hid (HK8.out.then hk9)
             have HB9 := hid (HB8.out.keep hk9 (fun f => f))
             have HK69 := hid (HK68.out.then hk9)
             clear hk9 HT3))
        have y0 : w9.cell? ⟨w5.heap.size, 0, none⟩ = some (.int .i64 x0.t) := HB9.out.at_ 0
        have y1 : w9.cell? ⟨w5.heap.size, 1, none⟩ = some (.int .i64 x0.k) := HB9.out.at_ 1
        have y2 : w9.cell? ⟨w5.heap.size, 2, none⟩ = some (.slice x0.A x0.m x0.c) := HB9.out.at_ 2
        have HX9 := hid ((HX0.out.wide (Av' := fun _ => False) (fun _ _ f => f.elim)).same (((Keep.refl _ w5).alloc (.cells #[.int .i64 x0.t, .int .i64 x0.k, .slice x0.A x0.m x0.c] 46)).then (show Same (w5.alloc (.cells #[.int .i64 x0.t, .int .i64 x0.k, .slice x0.A x0.m x0.c] 46)) w9 from HK69.out)))
        have HC := hid (alike_any w9.drew _ x0 ⟨0, 0, none, 0, 0, []⟩ (HX9.out.same (Keep.refl _ w9).drew) (EnOk.zero _ _))
        have hpq : peq x0.pe (En.mk 0 0 none 0 0 []).pe = true := by
          have := Hpe0.out
          rw [hgz.out] at this
          exact decide_eq_true (this.trans rfl)
        rw [hpq] at HC
        unfold En.val at HC
        clear hpq
        refine wp_region_held_drew (S := fun W => W.cell? ⟨w5.heap.size, 0, none⟩ = some (.int .i64 x0.t) ∧ W.cell? ⟨w5.heap.size, 1, none⟩ = some (.int .i64 x0.k) ∧ W.cell? ⟨w5.heap.size, 2, none⟩ = some (.slice x0.A x0.m x0.c)) (by kernel_rfl) ⟨y0, y1, y2⟩ (fun hHeld => ?_)
        refine takeO (i := 0) (v := ?_) (by kernel_rfl) (by kernel_rfl) (by kernel_rfl) (fun c a d v w h => by cases d <;> exact h) (oi := ?_) ?_ ?_ (by assumption) ?_
        rotate_left 2
        · (simp only [List.getElem?_toArray, List.getElem?_cons_zero]; rfl)
        · (refine Or.inl ⟨by rfl, ?_⟩; intro w hSw; (try dsimp only at hSw); go_simp; try with_reducible rfl)
        try simp only [Act.put, List.setIfInBounds_toArray, List.set_cons_zero, List.set_cons_succ]
        refine takeO (i := 1) (v := ?_) (by kernel_rfl) (by kernel_rfl) (by kernel_rfl) (fun c a d v w h => by cases d <;> exact h) (oi := ?_) ?_ ?_ (by assumption) ?_
        rotate_left 2
        · (simp only [List.getElem?_toArray, List.getElem?_cons_succ, List.getElem?_cons_zero]; rfl)
        · (refine Or.inl ⟨by rfl, ?_⟩; intro w hSw; (try dsimp only at hSw); go_simp; try with_reducible rfl)
        try simp only [Act.put, List.setIfInBounds_toArray, List.set_cons_zero, List.set_cons_succ]
        refine takeO (i := 2) (v := ?_) (by kernel_rfl) (by kernel_rfl) (by kernel_rfl) (fun c a d v w h => by cases d <;> exact h) (oi := ?_) ?_ ?_ (by assumption) ?_
        rotate_left 2
        · (simp only [List.getElem?_toArray, List.getElem?_cons_succ, List.getElem?_cons_zero]; rfl)
        · (refine Or.inl ⟨by rfl, ?_⟩; intro w hSw; (try dsimp only at hSw); go_simp; try with_reducible rfl)
        try simp only [Act.put, List.setIfInBounds_toArray, List.set_cons_zero, List.set_cons_succ]
        refine takeO (i := 3) (v := ?_) (by kernel_rfl) (by kernel_rfl) (by kernel_rfl) (fun c a d v w h => by cases d <;> exact h) (oi := ?_) ?_ ?_ (by assumption) ?_
        rotate_left 2
        · (simp only [List.getElem?_toArray, List.getElem?_cons_succ, List.getElem?_cons_zero]; rfl)
        · (refine Or.inl ⟨by rfl, ?_⟩; intro w hSw; (try dsimp only at hSw); go_simp; try with_reducible rfl)
        try simp only [Act.put, List.setIfInBounds_toArray, List.set_cons_zero, List.set_cons_succ]
        refine takeO (i := 4) (v := ?_) (by kernel_rfl) (by kernel_rfl) (by kernel_rfl) (fun c a d v w h => by cases d <;> exact h) (oi := ?_) ?_ ?_ (by assumption) ?_
        rotate_left 2
        · (simp only [List.getElem?_toArray, List.getElem?_cons_succ, List.getElem?_cons_zero]; rfl)
        · (refine Or.inl ⟨by rfl, ?_⟩; intro w hSw; (try dsimp only at hSw); go_simp; try with_reducible rfl)
        try simp only [Act.put, List.setIfInBounds_toArray, List.set_cons_zero, List.set_cons_succ]
        refine takeO (i := 5) (v := ?_) (by kernel_rfl) (by kernel_rfl) (by kernel_rfl) (fun c a d v w h => by cases d <;> exact h) (oi := ?_) ?_ ?_ (by assumption) ?_
        rotate_left 2
        · (simp only [List.getElem?_toArray, List.getElem?_cons_succ, List.getElem?_cons_zero]; rfl)
        · (refine Or.inl ⟨by rfl, ?_⟩; intro w hSw; (try dsimp only at hSw); go_simp; try with_reducible rfl)
        try simp only [Act.put, List.setIfInBounds_toArray, List.set_cons_zero, List.set_cons_succ]
        refine takeO (i := 6) (v := ?_) (by kernel_rfl) (by kernel_rfl) (by kernel_rfl) (fun c a d v w h => by cases d <;> exact h) (oi := ?_) ?_ ?_ (by assumption) ?_
        rotate_left 2
        · (simp only [List.getElem?_toArray, List.getElem?_cons_succ, List.getElem?_cons_zero]; rfl)
        · (refine Or.inl ⟨by rfl, ?_⟩; intro w hSw; (try dsimp only at hSw); go_simp; try with_reducible rfl)
        try simp only [Act.put, List.setIfInBounds_toArray, List.set_cons_zero, List.set_cons_succ]
        refine takeO (i := 7) (v := ?_) (by kernel_rfl) (by kernel_rfl) (by kernel_rfl) (fun c a d v w h => by cases d <;> exact h) (oi := ?_) ?_ ?_ (by assumption) ?_
        rotate_left 2
        · (simp only [List.getElem?_toArray, List.getElem?_cons_succ, List.getElem?_cons_zero]; rfl)
        · (refine Or.inl ⟨by rfl, ?_⟩; intro w hSw; (try dsimp only at hSw); go_simp; try with_reducible rfl)
        try simp only [Act.put, List.setIfInBounds_toArray, List.set_cons_zero, List.set_cons_succ]
        refine takeO (i := 8) (v := ?_) (by kernel_rfl) (by kernel_rfl) (by kernel_rfl) (fun c a d v w h => by cases d <;> exact h) (oi := ?_) ?_ ?_ (by assumption) ?_
        rotate_left 2
        · (simp only [List.getElem?_toArray, List.getElem?_cons_succ, List.getElem?_cons_zero]; rfl)
        · (refine Or.inl ⟨by rfl, ?_⟩; intro w hSw; (try dsimp only at hSw); go_simp; try with_reducible rfl)
        try simp only [Act.put, List.setIfInBounds_toArray, List.set_cons_zero, List.set_cons_succ]
        refine takeO (i := 9) (v := ?_) (by kernel_rfl) (by kernel_rfl) (by kernel_rfl) (fun c a d v w h => by cases d <;> exact h) (oi := ?_) ?_ ?_ (by assumption) ?_
        rotate_left 2
        · (simp only [List.getElem?_toArray, List.getElem?_cons_succ, List.getElem?_cons_zero]; rfl)
        · (refine Or.inl ⟨by rfl, ?_⟩; intro w hSw; (try dsimp only at hSw); go_simp; try with_reducible rfl)
        try simp only [Act.put, List.setIfInBounds_toArray, List.set_cons_zero, List.set_cons_succ]
        refine takeO (i := 10) (v := ?_) (by kernel_rfl) (by kernel_rfl) (by kernel_rfl) (fun c a d v w h => by cases d <;> exact h) (oi := ?_) ?_ ?_ (by assumption) ?_
        rotate_left 2
        · (simp only [List.getElem?_toArray, List.getElem?_cons_succ, List.getElem?_cons_zero]; rfl)
        · (refine Or.inl ⟨by rfl, ?_⟩; intro w hSw; (try dsimp only at hSw); go_simp; try with_reducible rfl)
        try simp only [Act.put, List.setIfInBounds_toArray, List.set_cons_zero, List.set_cons_succ]
        refine takeO (i := 11) (v := ?_) (by kernel_rfl) (by kernel_rfl) (by kernel_rfl) (fun c a d v w h => by cases d <;> exact h) (oi := ?_) ?_ ?_ (by assumption) ?_
        rotate_left 2
        · (simp only [List.getElem?_toArray, List.getElem?_cons_succ, List.getElem?_cons_zero]; rfl)
        · (refine Or.inl ⟨by rfl, ?_⟩; intro w hSw; (try dsimp only at hSw); go_simp; try with_reducible rfl)
        try simp only [Act.put, List.setIfInBounds_toArray, List.set_cons_zero, List.set_cons_succ]
        refine takeO (i := 12) (v := ?_) (by kernel_rfl) (by kernel_rfl) (by kernel_rfl) (fun c a d v w h => by cases d <;> exact h) (oi := ?_) ?_ ?_ (by assumption) ?_
        rotate_left 2
        · (simp only [List.getElem?_toArray, List.getElem?_cons_succ, List.getElem?_cons_zero]; rfl)
        · (refine Or.inl ⟨by rfl, ?_⟩; intro w hSw; (try dsimp only at hSw); go_simp; try with_reducible rfl)
        try simp only [Act.put, List.setIfInBounds_toArray, List.set_cons_zero, List.set_cons_succ]
        refine takeO (i := 13) (v := ?_) (by kernel_rfl) (by kernel_rfl) (by kernel_rfl) (fun c a d v w h => by cases d <;> exact h) (oi := ?_) ?_ ?_ (by assumption) ?_
        rotate_left 2
        · (simp only [List.getElem?_toArray, List.getElem?_cons_succ, List.getElem?_cons_zero]; rfl)
        · (refine Or.inl ⟨by rfl, ?_⟩; intro w hSw; (try dsimp only at hSw); go_simp; try with_reducible rfl)
        try simp only [Act.put, List.setIfInBounds_toArray, List.set_cons_zero, List.set_cons_succ]
        refine takeO (i := 14) (v := ?_) (by kernel_rfl) (by kernel_rfl) (by kernel_rfl) (fun c a d v w h => by cases d <;> exact h) (oi := ?_) ?_ ?_ (by assumption) ?_
        rotate_left 2
        · (simp only [List.getElem?_toArray, List.getElem?_cons_succ, List.getElem?_cons_zero]; rfl)
        · (refine Or.inl ⟨by rfl, ?_⟩; intro w hSw; (try dsimp only at hSw); go_simp; try with_reducible rfl)
        try simp only [Act.put, List.setIfInBounds_toArray, List.set_cons_zero, List.set_cons_succ]
        refine takeO (i := 15) (v := ?_) (by kernel_rfl) (by kernel_rfl) (by kernel_rfl) (fun c a d v w h => by cases d <;> exact h) (oi := ?_) ?_ ?_ (by assumption) ?_
        rotate_left 2
        · (simp only [List.getElem?_toArray, List.getElem?_cons_succ, List.getElem?_cons_zero]; rfl)
        · (refine Or.inl ⟨by rfl, ?_⟩; intro w hSw; (try dsimp only at hSw); go_simp; try with_reducible rfl)
        try simp only [Act.put, List.setIfInBounds_toArray, List.set_cons_zero, List.set_cons_succ]
        refine takeO (i := 16) (v := ?_) (by kernel_rfl) (by kernel_rfl) (by kernel_rfl) (fun c a d v w h => by cases d <;> exact h) (oi := ?_) ?_ ?_ (by assumption) ?_
        rotate_left 2
        · (simp only [List.getElem?_toArray, List.getElem?_cons_succ, List.getElem?_cons_zero]; rfl)
        · (refine Or.inl ⟨by rfl, ?_⟩; intro w hSw; (try dsimp only at hSw); go_simp; try with_reducible rfl)
        try simp only [Act.put, List.setIfInBounds_toArray, List.set_cons_zero, List.set_cons_succ]
        refine takeO (i := 17) (v := ?_) (by kernel_rfl) (by kernel_rfl) (by kernel_rfl) (fun c a d v w h => by cases d <;> exact h) (oi := ?_) ?_ ?_ (by assumption) ?_
        rotate_left 2
        · (simp only [List.getElem?_toArray, List.getElem?_cons_succ, List.getElem?_cons_zero]; rfl)
        · (refine Or.inl ⟨by rfl, ?_⟩; intro w hSw; (try dsimp only at hSw); go_simp; try with_reducible rfl)
        try simp only [Act.put, List.setIfInBounds_toArray, List.set_cons_zero, List.set_cons_succ]
        refine takeO (i := 18) (v := ?_) (by kernel_rfl) (by kernel_rfl) (by kernel_rfl) (fun c a d v w h => by cases d <;> exact h) (oi := ?_) ?_ ?_ (by assumption) ?_
        rotate_left 2
        · (simp only [List.getElem?_toArray, List.getElem?_cons_succ, List.getElem?_cons_zero]; rfl)
        · (refine Or.inl ⟨by rfl, ?_⟩; intro w hSw; (try dsimp only at hSw); go_simp; try with_reducible rfl)
        try simp only [Act.put, List.setIfInBounds_toArray, List.set_cons_zero, List.set_cons_succ]
        refine takeO (i := 19) (v := ?_) (by kernel_rfl) (by kernel_rfl) (by kernel_rfl) (fun c a d v w h => by cases d <;> exact h) (oi := ?_) ?_ ?_ (by assumption) ?_
        rotate_left 2
        · (simp only [List.getElem?_toArray, List.getElem?_cons_succ, List.getElem?_cons_zero]; rfl)
        · (refine Or.inl ⟨by rfl, ?_⟩; intro w hSw; (try dsimp only at hSw); go_simp; try with_reducible rfl)
        try simp only [Act.put, List.setIfInBounds_toArray, List.set_cons_zero, List.set_cons_succ]
        refine takeO (i := 20) (v := undef) (by kernel_rfl) (by kernel_rfl) (by kernel_rfl) (fun c a d v w h => by cases d <;> exact h) (oi := ?_) ?_ ?_ (by assumption) ?_
        rotate_left 1
        · (simp only [List.getElem?_toArray, List.getElem?_cons_succ, List.getElem?_cons_zero]; rfl)
        · exact Or.inr ⟨by rfl, rfl⟩
        try simp only [Act.put, List.setIfInBounds_toArray, List.set_cons_zero, List.set_cons_succ]
        refine takeO (i := 21) (v := undef) (by kernel_rfl) (by kernel_rfl) (by kernel_rfl) (fun c a d v w h => by cases d <;> exact h) (oi := ?_) ?_ ?_ (by assumption) ?_
        rotate_left 1
        · (simp only [List.getElem?_toArray, List.getElem?_cons_succ, List.getElem?_cons_zero]; rfl)
        · exact Or.inr ⟨by rfl, rfl⟩
        try simp only [Act.put, List.setIfInBounds_toArray, List.set_cons_zero, List.set_cons_succ]
        refine takeO (i := 22) (v := undef) (by kernel_rfl) (by kernel_rfl) (by kernel_rfl) (fun c a d v w h => by cases d <;> exact h) (oi := ?_) ?_ ?_ (by assumption) ?_
        rotate_left 1
        · (simp only [List.getElem?_toArray, List.getElem?_cons_succ, List.getElem?_cons_zero]; rfl)
        · exact Or.inr ⟨by rfl, rfl⟩
        try simp only [Act.put, List.setIfInBounds_toArray, List.set_cons_zero, List.set_cons_succ]
        refine takeO (i := 23) (v := undef) (by kernel_rfl) (by kernel_rfl) (by kernel_rfl) (fun c a d v w h => by cases d <;> exact h) (oi := ?_) ?_ ?_ (by assumption) ?_
        rotate_left 1
        · (simp only [List.getElem?_toArray, List.getElem?_cons_succ, List.getElem?_cons_zero]; rfl)
        · exact Or.inr ⟨by rfl, rfl⟩
        try simp only [Act.put, List.setIfInBounds_toArray, List.set_cons_zero, List.set_cons_succ]
        refine takeO (i := 24) (v := undef) (by kernel_rfl) (by kernel_rfl) (by kernel_rfl) (fun c a d v w h => by cases d <;> exact h) (oi := ?_) ?_ ?_ (by assumption) ?_
        rotate_left 1
        · (simp only [List.getElem?_toArray, List.getElem?_cons_succ, List.getElem?_cons_zero]; rfl)
        · exact Or.inr ⟨by rfl, rfl⟩
        try simp only [Act.put, List.setIfInBounds_toArray, List.set_cons_zero, List.set_cons_succ]
        refine takeO (i := 25) (v := undef) (by kernel_rfl) (by kernel_rfl) (by kernel_rfl) (fun c a d v w h => by cases d <;> exact h) (oi := ?_) ?_ ?_ (by assumption) ?_
        rotate_left 1
        · (simp only [List.getElem?_toArray, List.getElem?_cons_succ, List.getElem?_cons_zero]; rfl)
        · exact Or.inr ⟨by rfl, rfl⟩
        try simp only [Act.put, List.setIfInBounds_toArray, List.set_cons_zero, List.set_cons_succ]
        refine takeO (i := 26) (v := undef) (by kernel_rfl) (by kernel_rfl) (by kernel_rfl) (fun c a d v w h => by cases d <;> exact h) (oi := ?_) ?_ ?_ (by assumption) ?_
        rotate_left 1
        · (simp only [List.getElem?_toArray, List.getElem?_cons_succ, List.getElem?_cons_zero]; rfl)
        · exact Or.inr ⟨by rfl, rfl⟩
        try simp only [Act.put, List.setIfInBounds_toArray, List.set_cons_zero, List.set_cons_succ]
        refine takeO (i := 27) (v := undef) (by kernel_rfl) (by kernel_rfl) (by kernel_rfl) (fun c a d v w h => by cases d <;> exact h) (oi := ?_) ?_ ?_ (by assumption) ?_
        rotate_left 1
        · (simp only [List.getElem?_toArray, List.getElem?_cons_succ, List.getElem?_cons_zero]; rfl)
        · exact Or.inr ⟨by rfl, rfl⟩
        try simp only [Act.put, List.setIfInBounds_toArray, List.set_cons_zero, List.set_cons_succ]
        refine takeO (i := 28) (v := ?_) (by kernel_rfl) (by kernel_rfl) (by kernel_rfl) (fun c a d v w h => by cases d <;> exact h) (oi := ?_) ?_ ?_ (by assumption) ?_
        rotate_left 2
        · (simp only [List.getElem?_toArray, List.getElem?_cons_succ, List.getElem?_cons_zero]; rfl)
        · (refine Or.inl ⟨by rfl, ?_⟩; intro w hSw; (try dsimp only at hSw); go_simp; try with_reducible rfl)
        try simp only [Act.put, List.setIfInBounds_toArray, List.set_cons_zero, List.set_cons_succ]
        refine takeO (i := 29) (v := ?_) (by kernel_rfl) (by kernel_rfl) (by kernel_rfl) (fun c a d v w h => by cases d <;> exact h) (oi := ?_) ?_ ?_ (by assumption) ?_
        rotate_left 2
        · (simp only [List.getElem?_toArray, List.getElem?_cons_succ, List.getElem?_cons_zero]; rfl)
        · (refine Or.inl ⟨by rfl, ?_⟩; intro w hSw; (try dsimp only at hSw); go_simp; try with_reducible rfl)
        try simp only [Act.put, List.setIfInBounds_toArray, List.set_cons_zero, List.set_cons_succ]
        refine takeO (i := 30) (v := ?_) (by kernel_rfl) (by kernel_rfl) (by kernel_rfl) (fun c a d v w h => by cases d <;> exact h) (oi := ?_) ?_ ?_ (by assumption) ?_
        rotate_left 2
        · (simp only [List.getElem?_toArray, List.getElem?_cons_succ, List.getElem?_cons_zero]; rfl)
        · (refine Or.inl ⟨by rfl, ?_⟩; intro w hSw; (try dsimp only at hSw); go_simp; try with_reducible rfl)
        try simp only [Act.put, List.setIfInBounds_toArray, List.set_cons_zero, List.set_cons_succ]
        refine takeO (i := 31) (v := ?_) (by kernel_rfl) (by kernel_rfl) (by kernel_rfl) (fun c a d v w h => by cases d <;> exact h) (oi := ?_) ?_ ?_ (by assumption) ?_
        rotate_left 2
        · (simp only [List.getElem?_toArray, List.getElem?_cons_succ, List.getElem?_cons_zero]; rfl)
        · (refine Or.inl ⟨by rfl, ?_⟩; intro w hSw; (try dsimp only at hSw); go_simp; try with_reducible rfl)
        try simp only [Act.put, List.setIfInBounds_toArray, List.set_cons_zero, List.set_cons_succ]
        refine takeO (i := 32) (v := ?_) (by kernel_rfl) (by kernel_rfl) (by kernel_rfl) (fun c a d v w h => by cases d <;> exact h) (oi := ?_) ?_ ?_ (by assumption) ?_
        rotate_left 2
        · (simp only [List.getElem?_toArray, List.getElem?_cons_succ, List.getElem?_cons_zero]; rfl)
        · (refine Or.inl ⟨by rfl, ?_⟩; intro w hSw; (try dsimp only at hSw); go_simp; try with_reducible rfl)
        try simp only [Act.put, List.setIfInBounds_toArray, List.set_cons_zero, List.set_cons_succ]
        refine takeO (i := 33) (v := ?_) (by kernel_rfl) (by kernel_rfl) (by kernel_rfl) (fun c a d v w h => by cases d <;> exact h) (oi := ?_) ?_ ?_ (by assumption) ?_
        rotate_left 2
        · (simp only [List.getElem?_toArray, List.getElem?_cons_succ, List.getElem?_cons_zero]; rfl)
        · (refine Or.inl ⟨by rfl, ?_⟩; intro w hSw; (try dsimp only at hSw); go_simp; try with_reducible rfl)
        try simp only [Act.put, List.setIfInBounds_toArray, List.set_cons_zero, List.set_cons_succ]
        refine takeO (i := 34) (v := ?_) (by kernel_rfl) (by kernel_rfl) (by kernel_rfl) (fun c a d v w h => by cases d <;> exact h) (oi := ?_) ?_ ?_ (by assumption) ?_
        rotate_left 2
        · (simp only [List.getElem?_toArray, List.getElem?_cons_succ, List.getElem?_cons_zero]; rfl)
        · (refine Or.inl ⟨by rfl, ?_⟩; intro w hSw; (try dsimp only at hSw); go_simp; try with_reducible rfl)
        try simp only [Act.put, List.setIfInBounds_toArray, List.set_cons_zero, List.set_cons_succ]
        refine takeO (i := 35) (v := ?_) (by kernel_rfl) (by kernel_rfl) (by kernel_rfl) (fun c a d v w h => by cases d <;> exact h) (oi := ?_) ?_ ?_ (by assumption) ?_
        rotate_left 2
        · (simp only [List.getElem?_toArray, List.getElem?_cons_succ, List.getElem?_cons_zero]; rfl)
        · (refine Or.inl ⟨by rfl, ?_⟩; intro w hSw; (try dsimp only at hSw); go_simp; try with_reducible rfl)
        try simp only [Act.put, List.setIfInBounds_toArray, List.set_cons_zero, List.set_cons_succ]
        refine wpAnyH_ready (rs := [36]) (by kernel_rfl) (by simp) ?_
        refine AllReadyH.cons rfl (fun K hK => ?_) AllReadyH.nil
        go_simp
        refine HC.out.mono ?_
        rintro e w10 ⟨rfl, hk10⟩
        have HK10 := hid (HK9.out.drew.then hk10)
        have hk9d : Same w9 w10 := ((Keep.refl _ w9).drew).then hk10
        refine hK.out _ _ ⟨(HB9.out.keep hk9d (fun f => f)).at_ 0, (HB9.out.keep hk9d (fun f => f)).at_ 1, (HB9.out.keep hk9d (fun f => f)).at_ 2⟩ (fun hHeld2 => ?_)
        clear hK K hk10 hk9d hHeld
        try simp only [Act.put, List.setIfInBounds_toArray, List.set_cons_zero, List.set_cons_succ]
        refine takeO (i := 37) (v := ?_) (by kernel_rfl) (by kernel_rfl) (by kernel_rfl) (fun c a d v w h => by cases d <;> exact h) (oi := ?_) ?_ ?_ (by assumption) ?_
        rotate_left 2
        · (simp only [List.getElem?_toArray, List.getElem?_cons_succ, List.getElem?_cons_zero]; rfl)
        · (refine Or.inl ⟨by rfl, ?_⟩; intro w hSw; (try dsimp only at hSw); go_simp; try with_reducible rfl)
        try simp only [Act.put, List.setIfInBounds_toArray, List.set_cons_zero, List.set_cons_succ]
        refine takeO (i := 38) (v := ?_) (by kernel_rfl) (by kernel_rfl) (by kernel_rfl) (fun c a d v w h => by cases d <;> exact h) (oi := ?_) ?_ ?_ (by assumption) ?_
        rotate_left 2
        · (simp only [List.getElem?_toArray, List.getElem?_cons_succ, List.getElem?_cons_zero]; rfl)
        · (refine Or.inl ⟨by rfl, ?_⟩; intro w hSw; (try dsimp only at hSw); go_simp; try with_reducible rfl)
        try simp only [Act.put, List.setIfInBounds_toArray, List.set_cons_zero, List.set_cons_succ]
        refine takeO (i := 39) (v := ?_) (by kernel_rfl) (by kernel_rfl) (by kernel_rfl) (fun c a d v w h => by cases d <;> exact h) (oi := ?_) ?_ ?_ (by assumption) ?_
        rotate_left 2
        · (simp only [List.getElem?_toArray, List.getElem?_cons_succ, List.getElem?_cons_zero]; rfl)
        · (refine Or.inl ⟨by rfl, ?_⟩; intro w hSw; (try dsimp only at hSw); go_simp; try with_reducible rfl)
        try simp only [Act.put, List.setIfInBounds_toArray, List.set_cons_zero, List.set_cons_succ]
        refine wpAnyH_done (by kernel_rfl) ?_ _
        go_wp2_with fail
        go_loopw [84] (fun v wr => ∃ k : Nat, k ≤ 4 ∧ v = .int .i64 k ∧ Hid (Same w4 wr)) (fun v _ => 4 - (RowKit.intOf v).toNat)
        case atStart => exact ⟨0, by omega, rfl, HK10⟩
        case round =>
          obtain ⟨k, hk, rfl, HK⟩ := hrel
          have HBr := hid (HB4.out.keep HK.out)
          by_cases hk4 : k < 4
          · have hk1 : (k : Int) < 4 := by omega
            have hn5 := hn4.out
            have HA := hid (slice_at wr _ _ _ HBr.out.log (by omega) 0 ((k : Int) - 1))
            have HF := hid (fun w (hs : Same wr w) => from_at w _ _ _ _ (HBr.out.ls.same hs) (by omega) 0 ((k : Int) - 1))
            have hle := fromQ_len q 0 ((k : Int) - 1)
            generalize fromQ q 0 ((k : Int) - 1) = fq at *
            clear hn5
            go_wp2_with (first
              | (go_at_call 20; (with_reducible refine HA.out.mono ?_); rintro e w11 ⟨Y, p, d, l', rfl, hl', hm', hk11⟩
                 have hlq := hid (show LsQ w11 _ Y p d fq from ⟨l', hl', hm'⟩)
                 have HK11 := hid hk11
                 have HF2 := hid (HF.out _ hk11)
                 clear hl' hm' hk11 HA)
              | (go_at_call 26; (with_reducible refine HF2.out.mono ?_); rintro e w12 ⟨Z, p2, d2, rfl, hz, hk12⟩
                 have HK12 := hid (HK11.out.then hk12)
                 have hp1 := hlq.out.len
                 have hp2 := hz.len
                 have HE := hid (same_at w12 _ _ _ _ _ _ _ _ _ _ (hlq.out.same hk12) hz (by omega) (by omega))
                 rw [decide_eq_true rfl] at HE
                 clear hz hk12 HF2 hp1 hp2)
              | (go_at_call 21; (with_reducible refine HE.out.mono ?_); rintro e w13 ⟨rfl, hk13⟩
                 have HK13 := hid (HK12.out.then hk13)
                 clear hk13 HE))
            go_roundw
            case rel => exact ⟨k + 1, by omega, by go_num, hid (HK.out.then HK13.out)⟩
            case measure => simp [RowKit.intOf]; omega
          · obtain rfl : k = 4 := by omega
            have HU := hid (hHU.out wr _ _ HBr.out.log)
            have HV := hid (fun w (hs : Same wr w) => hHV.out w _ _ _ _ (HBr.out.ls.same hs) (by have := hn4.out; omega))
            clear hHU hHV
            generalize (decide (lastT id q < t) || (decide (t = lastT id q) && decide ((q.length : Int) ≤ 0))) = bb at *
            go_wp2_with (first
              | (go_at_call 27; (with_reducible refine HU.out.mono ?_); rintro e w14 ⟨rfl, hk14⟩
                 have HK14 := hid hk14
                 have HV2 := hid (HV.out _ hk14)
                 clear hk14 HU)
              | (go_at_call 28; (with_reducible refine HV2.out.mono ?_); rintro e w15 ⟨rfl, hk15⟩
                 have HK15 := hid (HK14.out.then hk15)
                 clear hk15 HV2))
            go_ret
            exact ⟨by simp, HK4.out.then (HK.out.then HK15.out)⟩
      · have htb := hid (show termB q i = false by
          simp only [termB]
          by_cases h1 : 0 ≤ i
          · have : ¬ i ≤ q.length := by omega
            simp [this]
          · simp [h1])
        clear hA h0
        go_enter Try.func7, Try.ntmps7
        go_wp2_with (first
          | (go_at_call 11; (with_reducible refine (wakes_any _).mono ?_); rintro e w1 ⟨rfl, hk1⟩
             have HK1 := hid hk1
             have HSa := hid (HS.out _ hk1)
             clear hk1)
          | (go_at_call 12; (with_reducible refine HSa.out.mono ?_); rintro e w2 ⟨rfl, hk2⟩
             have HK2 := hid (HK1.out.then hk2)
             have HPa := hid (HP.out _ HK2.out HL.out.2 HL.out.1)
             clear hk2 HSa)
          | (go_at_call 13; (with_reducible refine HPa.out.mono ?_); rintro e w4 ⟨lb, X4, n4, c4, rfl, hB4, hk4, hlb⟩
             have HB4 := hid hB4
             have hn4 := hid hB4.len
             have HK4 := hid (HK2.out.then hk4)
             have HG := hid (get_at _ _ _ _ hB4.log (by omega) i)
             rw [hok.out] at HG
             clear hB4 hk4 HPa)
          | (go_at_call 22; (with_reducible refine HG.out.mono ?_); rintro e w5 ⟨x0, rfl, hx0, hpe0, hk5⟩
             unfold En.val
             have HX0 := hid hx0
             have Hpe0 := hid hpe0
             have HK5 := hid hk5
             have hb := (Blk.made w5 46 #[.int .i64 0, .int .i64 0, .slice none 0 0])
             have f0 := hb.free 0
             have f1 := hb.free 1
             have f2 := hb.free 2
             have z0 : (w5.alloc (.cells #[.int .i64 0, .int .i64 0, .slice none 0 0] 46)).cell? ⟨w5.heap.size, 0, none⟩ = some (.int .i64 0) := hb.at_ 0
             have z1 : (w5.alloc (.cells #[.int .i64 0, .int .i64 0, .slice none 0 0] 46)).cell? ⟨w5.heap.size, 1, none⟩ = some (.int .i64 0) := hb.at_ 1
             have z2 : (w5.alloc (.cells #[.int .i64 0, .int .i64 0, .slice none 0 0] 46)).cell? ⟨w5.heap.size, 2, none⟩ = some (.slice none 0 0) := hb.at_ 2
             have HB := hid (Blk.made w5 46 #[.int .i64 x0.t, .int .i64 x0.k, .slice x0.A x0.m x0.c])
             have HK6 := hid (hk5.alloc (.cells #[.int .i64 x0.t, .int .i64 x0.k, .slice x0.A x0.m x0.c] 46))
             have HT := hid (term_at _ _ _ _ ((HB4.out.keep HK6.out).log) (by omega) i)
             have HT2 := hid (fun w (hs : Same w4 w) => rterm_at w _ _ _ _ _ ((HB4.out.keep hs).ls) (by have := hn4.out; omega) i)
             rw [htb.out] at HT HT2
             generalize termT id q i = T at *
             clear hx0 hpe0 hk5 hb HG)
          | (go_at_call 23; (with_reducible refine HT.out.mono ?_); rintro e w8 ⟨rfl, hk8⟩
             have HK8 := hid (HK6.out.then hk8)
             have HB8 := hid (HB.out.keep hk8 (fun f => f))
             have HK68 := hid hk8
             have HT3 := hid (HT2.out _ HK8.out)
             clear hk8 HT)
          | (go_at_call 24; (with_reducible refine HT3.out.mono ?_); rintro e w9 ⟨rfl, hk9⟩
             have HK9 := hid (HK8.out.then hk9)
             have HB9 := hid (HB8.out.keep hk9 (fun f => f))
             have HK69 := hid (HK68.out.then hk9)
             clear hk9 HT3))
        have y0 : w9.cell? ⟨w5.heap.size, 0, none⟩ = some (.int .i64 x0.t) := HB9.out.at_ 0
        have y1 : w9.cell? ⟨w5.heap.size, 1, none⟩ = some (.int .i64 x0.k) := HB9.out.at_ 1
        have y2 : w9.cell? ⟨w5.heap.size, 2, none⟩ = some (.slice x0.A x0.m x0.c) := HB9.out.at_ 2
        have HX9 := hid ((HX0.out.wide (Av' := fun _ => False) (fun _ _ f => f.elim)).same (((Keep.refl _ w5).alloc (.cells #[.int .i64 x0.t, .int .i64 x0.k, .slice x0.A x0.m x0.c] 46)).then (show Same (w5.alloc (.cells #[.int .i64 x0.t, .int .i64 x0.k, .slice x0.A x0.m x0.c] 46)) w9 from HK69.out)))
        have HC := hid (alike_any w9.drew _ x0 ⟨0, 0, none, 0, 0, []⟩ (HX9.out.same (Keep.refl _ w9).drew) (EnOk.zero _ _))
        have hpq : peq x0.pe (En.mk 0 0 none 0 0 []).pe = true := by
          have := Hpe0.out
          rw [hgz.out] at this
          exact decide_eq_true (this.trans rfl)
        rw [hpq] at HC
        unfold En.val at HC
        clear hpq
        refine wp_region_held_drew (S := fun W => W.cell? ⟨w5.heap.size, 0, none⟩ = some (.int .i64 x0.t) ∧ W.cell? ⟨w5.heap.size, 1, none⟩ = some (.int .i64 x0.k) ∧ W.cell? ⟨w5.heap.size, 2, none⟩ = some (.slice x0.A x0.m x0.c)) (by kernel_rfl) ⟨y0, y1, y2⟩ (fun hHeld => ?_)
        refine takeO (i := 0) (v := ?_) (by kernel_rfl) (by kernel_rfl) (by kernel_rfl) (fun c a d v w h => by cases d <;> exact h) (oi := ?_) ?_ ?_ (by assumption) ?_
        rotate_left 2
        · (simp only [List.getElem?_toArray, List.getElem?_cons_zero]; rfl)
        · (refine Or.inl ⟨by rfl, ?_⟩; intro w hSw; (try dsimp only at hSw); go_simp; try with_reducible rfl)
        try simp only [Act.put, List.setIfInBounds_toArray, List.set_cons_zero, List.set_cons_succ]
        refine takeO (i := 1) (v := ?_) (by kernel_rfl) (by kernel_rfl) (by kernel_rfl) (fun c a d v w h => by cases d <;> exact h) (oi := ?_) ?_ ?_ (by assumption) ?_
        rotate_left 2
        · (simp only [List.getElem?_toArray, List.getElem?_cons_succ, List.getElem?_cons_zero]; rfl)
        · (refine Or.inl ⟨by rfl, ?_⟩; intro w hSw; (try dsimp only at hSw); go_simp; try with_reducible rfl)
        try simp only [Act.put, List.setIfInBounds_toArray, List.set_cons_zero, List.set_cons_succ]
        refine takeO (i := 2) (v := ?_) (by kernel_rfl) (by kernel_rfl) (by kernel_rfl) (fun c a d v w h => by cases d <;> exact h) (oi := ?_) ?_ ?_ (by assumption) ?_
        rotate_left 2
        · (simp only [List.getElem?_toArray, List.getElem?_cons_succ, List.getElem?_cons_zero]; rfl)
        · (refine Or.inl ⟨by rfl, ?_⟩; intro w hSw; (try dsimp only at hSw); go_simp; try with_reducible rfl)
        try simp only [Act.put, List.setIfInBounds_toArray, List.set_cons_zero, List.set_cons_succ]
        refine takeO (i := 3) (v := ?_) (by kernel_rfl) (by kernel_rfl) (by kernel_rfl) (fun c a d v w h => by cases d <;> exact h) (oi := ?_) ?_ ?_ (by assumption) ?_
        rotate_left 2
        · (simp only [List.getElem?_toArray, List.getElem?_cons_succ, List.getElem?_cons_zero]; rfl)
        · (refine Or.inl ⟨by rfl, ?_⟩; intro w hSw; (try dsimp only at hSw); go_simp; try with_reducible rfl)
        try simp only [Act.put, List.setIfInBounds_toArray, List.set_cons_zero, List.set_cons_succ]
        refine takeO (i := 4) (v := ?_) (by kernel_rfl) (by kernel_rfl) (by kernel_rfl) (fun c a d v w h => by cases d <;> exact h) (oi := ?_) ?_ ?_ (by assumption) ?_
        rotate_left 2
        · (simp only [List.getElem?_toArray, List.getElem?_cons_succ, List.getElem?_cons_zero]; rfl)
        · (refine Or.inl ⟨by rfl, ?_⟩; intro w hSw; (try dsimp only at hSw); go_simp; try with_reducible rfl)
        try simp only [Act.put, List.setIfInBounds_toArray, List.set_cons_zero, List.set_cons_succ]
        refine takeO (i := 5) (v := ?_) (by kernel_rfl) (by kernel_rfl) (by kernel_rfl) (fun c a d v w h => by cases d <;> exact h) (oi := ?_) ?_ ?_ (by assumption) ?_
        rotate_left 2
        · (simp only [List.getElem?_toArray, List.getElem?_cons_succ, List.getElem?_cons_zero]; rfl)
        · (refine Or.inl ⟨by rfl, ?_⟩; intro w hSw; (try dsimp only at hSw); go_simp; try with_reducible rfl)
        try simp only [Act.put, List.setIfInBounds_toArray, List.set_cons_zero, List.set_cons_succ]
        refine takeO (i := 6) (v := ?_) (by kernel_rfl) (by kernel_rfl) (by kernel_rfl) (fun c a d v w h => by cases d <;> exact h) (oi := ?_) ?_ ?_ (by assumption) ?_
        rotate_left 2
        · (simp only [List.getElem?_toArray, List.getElem?_cons_succ, List.getElem?_cons_zero]; rfl)
        · (refine Or.inl ⟨by rfl, ?_⟩; intro w hSw; (try dsimp only at hSw); go_simp; try with_reducible rfl)
        try simp only [Act.put, List.setIfInBounds_toArray, List.set_cons_zero, List.set_cons_succ]
        refine takeO (i := 7) (v := ?_) (by kernel_rfl) (by kernel_rfl) (by kernel_rfl) (fun c a d v w h => by cases d <;> exact h) (oi := ?_) ?_ ?_ (by assumption) ?_
        rotate_left 2
        · (simp only [List.getElem?_toArray, List.getElem?_cons_succ, List.getElem?_cons_zero]; rfl)
        · (refine Or.inl ⟨by rfl, ?_⟩; intro w hSw; (try dsimp only at hSw); go_simp; try with_reducible rfl)
        try simp only [Act.put, List.setIfInBounds_toArray, List.set_cons_zero, List.set_cons_succ]
        refine takeO (i := 8) (v := ?_) (by kernel_rfl) (by kernel_rfl) (by kernel_rfl) (fun c a d v w h => by cases d <;> exact h) (oi := ?_) ?_ ?_ (by assumption) ?_
        rotate_left 2
        · (simp only [List.getElem?_toArray, List.getElem?_cons_succ, List.getElem?_cons_zero]; rfl)
        · (refine Or.inl ⟨by rfl, ?_⟩; intro w hSw; (try dsimp only at hSw); go_simp; try with_reducible rfl)
        try simp only [Act.put, List.setIfInBounds_toArray, List.set_cons_zero, List.set_cons_succ]
        refine takeO (i := 9) (v := ?_) (by kernel_rfl) (by kernel_rfl) (by kernel_rfl) (fun c a d v w h => by cases d <;> exact h) (oi := ?_) ?_ ?_ (by assumption) ?_
        rotate_left 2
        · (simp only [List.getElem?_toArray, List.getElem?_cons_succ, List.getElem?_cons_zero]; rfl)
        · (refine Or.inl ⟨by rfl, ?_⟩; intro w hSw; (try dsimp only at hSw); go_simp; try with_reducible rfl)
        try simp only [Act.put, List.setIfInBounds_toArray, List.set_cons_zero, List.set_cons_succ]
        refine takeO (i := 10) (v := ?_) (by kernel_rfl) (by kernel_rfl) (by kernel_rfl) (fun c a d v w h => by cases d <;> exact h) (oi := ?_) ?_ ?_ (by assumption) ?_
        rotate_left 2
        · (simp only [List.getElem?_toArray, List.getElem?_cons_succ, List.getElem?_cons_zero]; rfl)
        · (refine Or.inl ⟨by rfl, ?_⟩; intro w hSw; (try dsimp only at hSw); go_simp; try with_reducible rfl)
        try simp only [Act.put, List.setIfInBounds_toArray, List.set_cons_zero, List.set_cons_succ]
        refine takeO (i := 11) (v := ?_) (by kernel_rfl) (by kernel_rfl) (by kernel_rfl) (fun c a d v w h => by cases d <;> exact h) (oi := ?_) ?_ ?_ (by assumption) ?_
        rotate_left 2
        · (simp only [List.getElem?_toArray, List.getElem?_cons_succ, List.getElem?_cons_zero]; rfl)
        · (refine Or.inl ⟨by rfl, ?_⟩; intro w hSw; (try dsimp only at hSw); go_simp; try with_reducible rfl)
        try simp only [Act.put, List.setIfInBounds_toArray, List.set_cons_zero, List.set_cons_succ]
        refine takeO (i := 12) (v := undef) (by kernel_rfl) (by kernel_rfl) (by kernel_rfl) (fun c a d v w h => by cases d <;> exact h) (oi := ?_) ?_ ?_ (by assumption) ?_
        rotate_left 1
        · (simp only [List.getElem?_toArray, List.getElem?_cons_succ, List.getElem?_cons_zero]; rfl)
        · exact Or.inr ⟨by rfl, rfl⟩
        try simp only [Act.put, List.setIfInBounds_toArray, List.set_cons_zero, List.set_cons_succ]
        refine takeO (i := 13) (v := undef) (by kernel_rfl) (by kernel_rfl) (by kernel_rfl) (fun c a d v w h => by cases d <;> exact h) (oi := ?_) ?_ ?_ (by assumption) ?_
        rotate_left 1
        · (simp only [List.getElem?_toArray, List.getElem?_cons_succ, List.getElem?_cons_zero]; rfl)
        · exact Or.inr ⟨by rfl, rfl⟩
        try simp only [Act.put, List.setIfInBounds_toArray, List.set_cons_zero, List.set_cons_succ]
        refine takeO (i := 14) (v := ?_) (by kernel_rfl) (by kernel_rfl) (by kernel_rfl) (fun c a d v w h => by cases d <;> exact h) (oi := ?_) ?_ ?_ (by assumption) ?_
        rotate_left 2
        · (simp only [List.getElem?_toArray, List.getElem?_cons_succ, List.getElem?_cons_zero]; rfl)
        · (refine Or.inl ⟨by rfl, ?_⟩; intro w hSw; (try dsimp only at hSw); go_simp; try with_reducible rfl)
        try simp only [Act.put, List.setIfInBounds_toArray, List.set_cons_zero, List.set_cons_succ]
        refine takeO (i := 15) (v := ?_) (by kernel_rfl) (by kernel_rfl) (by kernel_rfl) (fun c a d v w h => by cases d <;> exact h) (oi := ?_) ?_ ?_ (by assumption) ?_
        rotate_left 2
        · (simp only [List.getElem?_toArray, List.getElem?_cons_succ, List.getElem?_cons_zero]; rfl)
        · (refine Or.inl ⟨by rfl, ?_⟩; intro w hSw; (try dsimp only at hSw); go_simp; try with_reducible rfl)
        try simp only [Act.put, List.setIfInBounds_toArray, List.set_cons_zero, List.set_cons_succ]
        refine takeO (i := 16) (v := ?_) (by kernel_rfl) (by kernel_rfl) (by kernel_rfl) (fun c a d v w h => by cases d <;> exact h) (oi := ?_) ?_ ?_ (by assumption) ?_
        rotate_left 2
        · (simp only [List.getElem?_toArray, List.getElem?_cons_succ, List.getElem?_cons_zero]; rfl)
        · (refine Or.inl ⟨by rfl, ?_⟩; intro w hSw; (try dsimp only at hSw); go_simp; try with_reducible rfl)
        try simp only [Act.put, List.setIfInBounds_toArray, List.set_cons_zero, List.set_cons_succ]
        refine takeO (i := 17) (v := ?_) (by kernel_rfl) (by kernel_rfl) (by kernel_rfl) (fun c a d v w h => by cases d <;> exact h) (oi := ?_) ?_ ?_ (by assumption) ?_
        rotate_left 2
        · (simp only [List.getElem?_toArray, List.getElem?_cons_succ, List.getElem?_cons_zero]; rfl)
        · (refine Or.inl ⟨by rfl, ?_⟩; intro w hSw; (try dsimp only at hSw); go_simp; try with_reducible rfl)
        try simp only [Act.put, List.setIfInBounds_toArray, List.set_cons_zero, List.set_cons_succ]
        refine takeO (i := 18) (v := ?_) (by kernel_rfl) (by kernel_rfl) (by kernel_rfl) (fun c a d v w h => by cases d <;> exact h) (oi := ?_) ?_ ?_ (by assumption) ?_
        rotate_left 2
        · (simp only [List.getElem?_toArray, List.getElem?_cons_succ, List.getElem?_cons_zero]; rfl)
        · (refine Or.inl ⟨by rfl, ?_⟩; intro w hSw; (try dsimp only at hSw); go_simp; try with_reducible rfl)
        try simp only [Act.put, List.setIfInBounds_toArray, List.set_cons_zero, List.set_cons_succ]
        refine takeO (i := 19) (v := ?_) (by kernel_rfl) (by kernel_rfl) (by kernel_rfl) (fun c a d v w h => by cases d <;> exact h) (oi := ?_) ?_ ?_ (by assumption) ?_
        rotate_left 2
        · (simp only [List.getElem?_toArray, List.getElem?_cons_succ, List.getElem?_cons_zero]; rfl)
        · (refine Or.inl ⟨by rfl, ?_⟩; intro w hSw; (try dsimp only at hSw); go_simp; try with_reducible rfl)
        try simp only [Act.put, List.setIfInBounds_toArray, List.set_cons_zero, List.set_cons_succ]
        refine takeO (i := 20) (v := undef) (by kernel_rfl) (by kernel_rfl) (by kernel_rfl) (fun c a d v w h => by cases d <;> exact h) (oi := ?_) ?_ ?_ (by assumption) ?_
        rotate_left 1
        · (simp only [List.getElem?_toArray, List.getElem?_cons_succ, List.getElem?_cons_zero]; rfl)
        · exact Or.inr ⟨by rfl, rfl⟩
        try simp only [Act.put, List.setIfInBounds_toArray, List.set_cons_zero, List.set_cons_succ]
        refine takeO (i := 21) (v := undef) (by kernel_rfl) (by kernel_rfl) (by kernel_rfl) (fun c a d v w h => by cases d <;> exact h) (oi := ?_) ?_ ?_ (by assumption) ?_
        rotate_left 1
        · (simp only [List.getElem?_toArray, List.getElem?_cons_succ, List.getElem?_cons_zero]; rfl)
        · exact Or.inr ⟨by rfl, rfl⟩
        try simp only [Act.put, List.setIfInBounds_toArray, List.set_cons_zero, List.set_cons_succ]
        refine takeO (i := 22) (v := undef) (by kernel_rfl) (by kernel_rfl) (by kernel_rfl) (fun c a d v w h => by cases d <;> exact h) (oi := ?_) ?_ ?_ (by assumption) ?_
        rotate_left 1
        · (simp only [List.getElem?_toArray, List.getElem?_cons_succ, List.getElem?_cons_zero]; rfl)
        · exact Or.inr ⟨by rfl, rfl⟩
        try simp only [Act.put, List.setIfInBounds_toArray, List.set_cons_zero, List.set_cons_succ]
        refine takeO (i := 23) (v := undef) (by kernel_rfl) (by kernel_rfl) (by kernel_rfl) (fun c a d v w h => by cases d <;> exact h) (oi := ?_) ?_ ?_ (by assumption) ?_
        rotate_left 1
        · (simp only [List.getElem?_toArray, List.getElem?_cons_succ, List.getElem?_cons_zero]; rfl)
        · exact Or.inr ⟨by rfl, rfl⟩
        try simp only [Act.put, List.setIfInBounds_toArray, List.set_cons_zero, List.set_cons_succ]
        refine takeO (i := 24) (v := undef) (by kernel_rfl) (by kernel_rfl) (by kernel_rfl) (fun c a d v w h => by cases d <;> exact h) (oi := ?_) ?_ ?_ (by assumption) ?_
        rotate_left 1
        · (simp only [List.getElem?_toArray, List.getElem?_cons_succ, List.getElem?_cons_zero]; rfl)
        · exact Or.inr ⟨by rfl, rfl⟩
        try simp only [Act.put, List.setIfInBounds_toArray, List.set_cons_zero, List.set_cons_succ]
        refine takeO (i := 25) (v := undef) (by kernel_rfl) (by kernel_rfl) (by kernel_rfl) (fun c a d v w h => by cases d <;> exact h) (oi := ?_) ?_ ?_ (by assumption) ?_
        rotate_left 1
        · (simp only [List.getElem?_toArray, List.getElem?_cons_succ, List.getElem?_cons_zero]; rfl)
        · exact Or.inr ⟨by rfl, rfl⟩
        try simp only [Act.put, List.setIfInBounds_toArray, List.set_cons_zero, List.set_cons_succ]
        refine takeO (i := 26) (v := undef) (by kernel_rfl) (by kernel_rfl) (by kernel_rfl) (fun c a d v w h => by cases d <;> exact h) (oi := ?_) ?_ ?_ (by assumption) ?_
        rotate_left 1
        · (simp only [List.getElem?_toArray, List.getElem?_cons_succ, List.getElem?_cons_zero]; rfl)
        · exact Or.inr ⟨by rfl, rfl⟩
        try simp only [Act.put, List.setIfInBounds_toArray, List.set_cons_zero, List.set_cons_succ]
        refine takeO (i := 27) (v := undef) (by kernel_rfl) (by kernel_rfl) (by kernel_rfl) (fun c a d v w h => by cases d <;> exact h) (oi := ?_) ?_ ?_ (by assumption) ?_
        rotate_left 1
        · (simp only [List.getElem?_toArray, List.getElem?_cons_succ, List.getElem?_cons_zero]; rfl)
        · exact Or.inr ⟨by rfl, rfl⟩
        try simp only [Act.put, List.setIfInBounds_toArray, List.set_cons_zero, List.set_cons_succ]
        refine takeO (i := 28) (v := ?_) (by kernel_rfl) (by kernel_rfl) (by kernel_rfl) (fun c a d v w h => by cases d <;> exact h) (oi := ?_) ?_ ?_ (by assumption) ?_
        rotate_left 2
        · (simp only [List.getElem?_toArray, List.getElem?_cons_succ, List.getElem?_cons_zero]; rfl)
        · (refine Or.inl ⟨by rfl, ?_⟩; intro w hSw; (try dsimp only at hSw); go_simp; try with_reducible rfl)
        try simp only [Act.put, List.setIfInBounds_toArray, List.set_cons_zero, List.set_cons_succ]
        refine takeO (i := 29) (v := ?_) (by kernel_rfl) (by kernel_rfl) (by kernel_rfl) (fun c a d v w h => by cases d <;> exact h) (oi := ?_) ?_ ?_ (by assumption) ?_
        rotate_left 2
        · (simp only [List.getElem?_toArray, List.getElem?_cons_succ, List.getElem?_cons_zero]; rfl)
        · (refine Or.inl ⟨by rfl, ?_⟩; intro w hSw; (try dsimp only at hSw); go_simp; try with_reducible rfl)
        try simp only [Act.put, List.setIfInBounds_toArray, List.set_cons_zero, List.set_cons_succ]
        refine takeO (i := 30) (v := ?_) (by kernel_rfl) (by kernel_rfl) (by kernel_rfl) (fun c a d v w h => by cases d <;> exact h) (oi := ?_) ?_ ?_ (by assumption) ?_
        rotate_left 2
        · (simp only [List.getElem?_toArray, List.getElem?_cons_succ, List.getElem?_cons_zero]; rfl)
        · (refine Or.inl ⟨by rfl, ?_⟩; intro w hSw; (try dsimp only at hSw); go_simp; try with_reducible rfl)
        try simp only [Act.put, List.setIfInBounds_toArray, List.set_cons_zero, List.set_cons_succ]
        refine takeO (i := 31) (v := ?_) (by kernel_rfl) (by kernel_rfl) (by kernel_rfl) (fun c a d v w h => by cases d <;> exact h) (oi := ?_) ?_ ?_ (by assumption) ?_
        rotate_left 2
        · (simp only [List.getElem?_toArray, List.getElem?_cons_succ, List.getElem?_cons_zero]; rfl)
        · (refine Or.inl ⟨by rfl, ?_⟩; intro w hSw; (try dsimp only at hSw); go_simp; try with_reducible rfl)
        try simp only [Act.put, List.setIfInBounds_toArray, List.set_cons_zero, List.set_cons_succ]
        refine takeO (i := 32) (v := ?_) (by kernel_rfl) (by kernel_rfl) (by kernel_rfl) (fun c a d v w h => by cases d <;> exact h) (oi := ?_) ?_ ?_ (by assumption) ?_
        rotate_left 2
        · (simp only [List.getElem?_toArray, List.getElem?_cons_succ, List.getElem?_cons_zero]; rfl)
        · (refine Or.inl ⟨by rfl, ?_⟩; intro w hSw; (try dsimp only at hSw); go_simp; try with_reducible rfl)
        try simp only [Act.put, List.setIfInBounds_toArray, List.set_cons_zero, List.set_cons_succ]
        refine takeO (i := 33) (v := ?_) (by kernel_rfl) (by kernel_rfl) (by kernel_rfl) (fun c a d v w h => by cases d <;> exact h) (oi := ?_) ?_ ?_ (by assumption) ?_
        rotate_left 2
        · (simp only [List.getElem?_toArray, List.getElem?_cons_succ, List.getElem?_cons_zero]; rfl)
        · (refine Or.inl ⟨by rfl, ?_⟩; intro w hSw; (try dsimp only at hSw); go_simp; try with_reducible rfl)
        try simp only [Act.put, List.setIfInBounds_toArray, List.set_cons_zero, List.set_cons_succ]
        refine takeO (i := 34) (v := ?_) (by kernel_rfl) (by kernel_rfl) (by kernel_rfl) (fun c a d v w h => by cases d <;> exact h) (oi := ?_) ?_ ?_ (by assumption) ?_
        rotate_left 2
        · (simp only [List.getElem?_toArray, List.getElem?_cons_succ, List.getElem?_cons_zero]; rfl)
        · (refine Or.inl ⟨by rfl, ?_⟩; intro w hSw; (try dsimp only at hSw); go_simp; try with_reducible rfl)
        try simp only [Act.put, List.setIfInBounds_toArray, List.set_cons_zero, List.set_cons_succ]
        refine takeO (i := 35) (v := ?_) (by kernel_rfl) (by kernel_rfl) (by kernel_rfl) (fun c a d v w h => by cases d <;> exact h) (oi := ?_) ?_ ?_ (by assumption) ?_
        rotate_left 2
        · (simp only [List.getElem?_toArray, List.getElem?_cons_succ, List.getElem?_cons_zero]; rfl)
        · (refine Or.inl ⟨by rfl, ?_⟩; intro w hSw; (try dsimp only at hSw); go_simp; try with_reducible rfl)
        try simp only [Act.put, List.setIfInBounds_toArray, List.set_cons_zero, List.set_cons_succ]
        refine wpAnyH_ready (rs := [36]) (by kernel_rfl) (by simp) ?_
        refine AllReadyH.cons rfl (fun K hK => ?_) AllReadyH.nil
        go_simp
        refine HC.out.mono ?_
        rintro e w10 ⟨rfl, hk10⟩
        have HK10 := hid (HK9.out.drew.then hk10)
        have hk9d : Same w9 w10 := ((Keep.refl _ w9).drew).then hk10
        refine hK.out _ _ ⟨(HB9.out.keep hk9d (fun f => f)).at_ 0, (HB9.out.keep hk9d (fun f => f)).at_ 1, (HB9.out.keep hk9d (fun f => f)).at_ 2⟩ (fun hHeld2 => ?_)
        clear hK K hk10 hk9d hHeld
        try simp only [Act.put, List.setIfInBounds_toArray, List.set_cons_zero, List.set_cons_succ]
        refine takeO (i := 37) (v := ?_) (by kernel_rfl) (by kernel_rfl) (by kernel_rfl) (fun c a d v w h => by cases d <;> exact h) (oi := ?_) ?_ ?_ (by assumption) ?_
        rotate_left 2
        · (simp only [List.getElem?_toArray, List.getElem?_cons_succ, List.getElem?_cons_zero]; rfl)
        · (refine Or.inl ⟨by rfl, ?_⟩; intro w hSw; (try dsimp only at hSw); go_simp; try with_reducible rfl)
        try simp only [Act.put, List.setIfInBounds_toArray, List.set_cons_zero, List.set_cons_succ]
        refine takeO (i := 38) (v := ?_) (by kernel_rfl) (by kernel_rfl) (by kernel_rfl) (fun c a d v w h => by cases d <;> exact h) (oi := ?_) ?_ ?_ (by assumption) ?_
        rotate_left 2
        · (simp only [List.getElem?_toArray, List.getElem?_cons_succ, List.getElem?_cons_zero]; rfl)
        · (refine Or.inl ⟨by rfl, ?_⟩; intro w hSw; (try dsimp only at hSw); go_simp; try with_reducible rfl)
        try simp only [Act.put, List.setIfInBounds_toArray, List.set_cons_zero, List.set_cons_succ]
        refine takeO (i := 39) (v := ?_) (by kernel_rfl) (by kernel_rfl) (by kernel_rfl) (fun c a d v w h => by cases d <;> exact h) (oi := ?_) ?_ ?_ (by assumption) ?_
        rotate_left 2
        · (simp only [List.getElem?_toArray, List.getElem?_cons_succ, List.getElem?_cons_zero]; rfl)
        · (refine Or.inl ⟨by rfl, ?_⟩; intro w hSw; (try dsimp only at hSw); go_simp; try with_reducible rfl)
        try simp only [Act.put, List.setIfInBounds_toArray, List.set_cons_zero, List.set_cons_succ]
        refine wpAnyH_done (by kernel_rfl) ?_ _
        go_wp2_with fail
        go_loopw [84] (fun v wr => ∃ k : Nat, k ≤ 4 ∧ v = .int .i64 k ∧ Hid (Same w4 wr)) (fun v _ => 4 - (RowKit.intOf v).toNat)
        case atStart => exact ⟨0, by omega, rfl, HK10⟩
        case round =>
          obtain ⟨k, hk, rfl, HK⟩ := hrel
          have HBr := hid (HB4.out.keep HK.out)
          by_cases hk4 : k < 4
          · have hk1 : (k : Int) < 4 := by omega
            have hn5 := hn4.out
            have HA := hid (slice_at wr _ _ _ HBr.out.log (by omega) i ((k : Int) - 1))
            have HF := hid (fun w (hs : Same wr w) => from_at w _ _ _ _ (HBr.out.ls.same hs) (by omega) i ((k : Int) - 1))
            have hle := fromQ_len q i ((k : Int) - 1)
            generalize fromQ q i ((k : Int) - 1) = fq at *
            clear hn5
            go_wp2_with (first
              | (go_at_call 20; (with_reducible refine HA.out.mono ?_); rintro e w11 ⟨Y, p, d, l', rfl, hl', hm', hk11⟩
                 have hlq := hid (show LsQ w11 _ Y p d fq from ⟨l', hl', hm'⟩)
                 have HK11 := hid hk11
                 have HF2 := hid (HF.out _ hk11)
                 clear hl' hm' hk11 HA)
              | (go_at_call 26; (with_reducible refine HF2.out.mono ?_); rintro e w12 ⟨Z, p2, d2, rfl, hz, hk12⟩
                 have HK12 := hid (HK11.out.then hk12)
                 have hp1 := hlq.out.len
                 have hp2 := hz.len
                 have HE := hid (same_at w12 _ _ _ _ _ _ _ _ _ _ (hlq.out.same hk12) hz (by omega) (by omega))
                 rw [decide_eq_true rfl] at HE
                 clear hz hk12 HF2 hp1 hp2)
              | (go_at_call 21; (with_reducible refine HE.out.mono ?_); rintro e w13 ⟨rfl, hk13⟩
                 have HK13 := hid (HK12.out.then hk13)
                 clear hk13 HE))
            go_roundw
            case rel => exact ⟨k + 1, by omega, by go_num, hid (HK.out.then HK13.out)⟩
            case measure => simp [RowKit.intOf]; omega
          · obtain rfl : k = 4 := by omega
            have HU := hid (hHU.out wr _ _ HBr.out.log)
            have HV := hid (fun w (hs : Same wr w) => hHV.out w _ _ _ _ (HBr.out.ls.same hs) (by have := hn4.out; omega))
            clear hHU hHV
            generalize (decide (lastT id q < t) || (decide (t = lastT id q) && decide ((q.length : Int) ≤ i))) = bb at *
            go_wp2_with (first
              | (go_at_call 27; (with_reducible refine HU.out.mono ?_); rintro e w14 ⟨rfl, hk14⟩
                 have HK14 := hid hk14
                 have HV2 := hid (HV.out _ hk14)
                 clear hk14 HU)
              | (go_at_call 28; (with_reducible refine HV2.out.mono ?_); rintro e w15 ⟨rfl, hk15⟩
                 have HK15 := hid (HK14.out.then hk15)
                 clear hk15 HV2))
            go_ret
            exact ⟨by simp, HK4.out.then (HK.out.then HK15.out)⟩
  · have hs1' : smallA l = false := by simpa using hs1
    rw [hs1'] at HS
    clear hs1 hs1'
    go_enter Try.func7, Try.ntmps7
    go_wp2_with (first
      | (go_at_call 11; (with_reducible refine (wakes_any _).mono ?_); rintro e w1 ⟨rfl, hk1⟩
         have HK1 := hid hk1
         have HSa := hid (HS.out _ hk1)
         clear hk1)
      | (go_at_call 12; (with_reducible refine HSa.out.mono ?_); rintro e w2 ⟨rfl, hk2⟩
         have HK2 := hid (HK1.out.then hk2)
         clear hk2 HSa))
    go_ret
    exact ⟨rfl, HK2.out⟩
end Go.Proofs.Ytbellndcgagclaa

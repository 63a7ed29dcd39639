import Derived.Test.YtbellndcgagclaaLog
import Derived.Test.YtbellndcgagclaaStep
namespace Go.Proofs.Ytbellndcgagclaa
open Go.RowKit

def AddPost (w : World) (Av : Nat → Prop) (l : List En) (n : Int) (x : Int) (e : Ending) (w' : World) : Prop :=
  ∃ Y d, e = .returned (.tuple #[.slice Y l.length d, .int .i64 n, .int .i64 x]) ∧ Ls w' Av Y l.length d l ∧ Same w w'
set_option maxHeartbeats 8000000 in
set_option maxRecDepth 100000 in
theorem radd_any (w : World) (Av : Nat → Prop) (hAv : ∀ i, Av i → i < w.heap.size) (X : Option Addr) (n c : Nat) (l : List En) (h : Ls w Av X n c l) (hn : n ≤ 1000) (x : En) (hx : EnOk w Av x) :
    Calls Try.prog 41 #[.slice X n c, x.val] w (AddPost w Av (addL En.pe l x) (addN En.pe l x) (addErr En.pe l x)) := by
  have hl := h.len
  have HL := hid h
  have HX := hid hx
  have hk1 : Same w (w.alloc (.cells #[.int .i64 x.t, .int .i64 x.k, .slice x.A x.m x.c] 46)) := (Keep.refl _ w).alloc _
  have HK1 := hid hk1
  have HR := hid (right_any _ Av x (hx.same hk1))
  have HLa := hid (fun W (hs : Same w W) => rlast_any W Av X n c l (h.same hs) hn)
  unfold En.val at HR ⊢
  clear h hx hk1
  by_cases hr : rightP x.pe = true
  · rw [hr] at HR
    by_cases ht : x.t < lastT En.pe l
    · have e8 : addErr En.pe l x = 8 := by unfold addErr; rw [if_pos hr, if_pos (show x.pe.1 < _ from ht)]
      have e1 : addL En.pe l x = l := by unfold addL; rw [e8]; rfl
      have e2 : addN En.pe l x = 0 := by unfold addN; rw [e8]; rfl
      rw [e8, e1, e2]
      generalize lastT En.pe l = T at *
      go_enter Try.func41, Try.ntmps41
      go_wp2_with (first
        | (go_at_call 31; refine HR.out.mono ?_; rintro e w2 ⟨rfl, hk2⟩
           have HK2 := hid (HK1.out.then hk2)
           have hB2 := (Blk.made w 46 #[.int .i64 x.t, .int .i64 x.k, .slice x.A x.m x.c]).keep hk2 (fun f => f)
           have HB2 := hid hB2
           clear hk2 hB2)
        | (go_at_call 42; refine (HLa.out _ HK2.out).mono ?_; rintro e w3 ⟨rfl, hk3⟩
           have c0 : w3.cell? ⟨w.heap.size, 0, none⟩ = some (.int .i64 x.t) := (HB2.out.keep hk3 (fun f => f)).at_ 0
           have HK3 := hid (HK2.out.then hk3)
           clear hk3))
      go_ret3
      exact ⟨X, c, by rw [hl]; rfl, by rw [hl]; exact HL.out.same HK3.out, HK3.out⟩
    · have e8 : addErr En.pe l x = 0 := by unfold addErr; rw [if_pos hr, if_neg (show ¬ x.pe.1 < _ from ht)]
      have e1 : addL En.pe l x = l ++ [x] := by unfold addL; rw [e8]; rfl
      have e2 : addN En.pe l x = l.length + 1 := by unfold addN; rw [e8]; rfl
      rw [e8, e1, e2]
      generalize lastT En.pe l = T at *
      go_enter Try.func41, Try.ntmps41
      go_wp2_with (first
        | (go_at_call 31; refine HR.out.mono ?_; rintro e w2 ⟨rfl, hk2⟩
           have HK2 := hid (HK1.out.then hk2)
           have hB2 := (Blk.made w 46 #[.int .i64 x.t, .int .i64 x.k, .slice x.A x.m x.c]).keep hk2 (fun f => f)
           have HB2 := hid hB2
           clear hk2 hB2)
        | (go_at_call 42; refine (HLa.out _ HK2.out).mono ?_; rintro e w3 ⟨rfl, hk3⟩
           have HB3 := hid (HB2.out.keep hk3 (fun f => f))
           have c0 : w3.cell? ⟨w.heap.size, 0, none⟩ = some (.int .i64 x.t) := HB3.out.at_ 0
           have c1 : w3.cell? ⟨w.heap.size, 1, none⟩ = some (.int .i64 x.k) := HB3.out.at_ 1
           have c2 : w3.cell? ⟨w.heap.size, 2, none⟩ = some (.slice x.A x.m x.c) := HB3.out.at_ 2
           have hlt : w.heap.size < w3.heap.size := HB3.out.lt
           have HK3 := hid (HK2.out.then hk3)
           clear hk3))
      have HSl := hid (HL.out.sl.same HK3.out)
      have hfl : (enFlat l).length = n * 3 := by rw [enFlat_len, hl]
      have hS0 : Hid (w3.drew.cell? ⟨w.heap.size, 0, none⟩ = some (.int .i64 x.t) ∧ w3.drew.cell? ⟨w.heap.size, 1, none⟩ = some (.int .i64 x.k) ∧ w3.drew.cell? ⟨w.heap.size, 2, none⟩ = some (.slice x.A x.m x.c)) := hid ⟨HB3.out.at_ 0, HB3.out.at_ 1, HB3.out.at_ 2⟩
      have hOa := hid (World.ownsRow_made (base := w3.heap.size) (e := 46) (size := 3) w3 #[] 0 (Nat.le_refl _) (by simp [maxLen]) rfl)
      have hOb := hid (World.ownsRow.alloc hOa.out (.cells #[.int .i64 x.t, .int .i64 x.k, .slice x.A x.m x.c] 46))
      have hOc := hid (World.ownsRow_made (base := w3.heap.size) (e := 46) (size := 3) (w3.alloc (.cells #[.int .i64 x.t, .int .i64 x.k, .slice x.A x.m x.c] 46)) #[] 0 (by simp) (by simp [maxLen]) rfl)
      rw [World.size_alloc] at hOc
      have hBb := (Blk.made (w3.alloc (.cells #[] 46)) 46 #[.int .i64 x.t, .int .i64 x.k, .slice x.A x.m x.c])
      rw [World.size_alloc] at hBb
      have HBb := hid hBb
      have HBc := hid ((Blk.made w3 46 #[.int .i64 x.t, .int .i64 x.k, .slice x.A x.m x.c]).alloc (.cells #[] 46))
      have HKa := hid (((Keep.refl (fun _ => False) w3).alloc (.cells #[] 46)).drew)
      have HKb := hid ((((Keep.refl (fun _ => False) w3).alloc (.cells #[] 46)).alloc (.cells #[.int .i64 x.t, .int .i64 x.k, .slice x.A x.m x.c] 46)).drew)
      have HKc := hid ((((Keep.refl (fun _ => False) w3).alloc (.cells #[.int .i64 x.t, .int .i64 x.k, .slice x.A x.m x.c] 46)).alloc (.cells #[] 46)).drew)
      have hOne : Hid (∀ u ∈ x.cells, u.oneCell' = true) := hid (by intro u hu; exact enFlat_one [x] u (by simpa [enFlat] using hu))
      clear hBb
      go_region_held3 (fun w' => w'.cell? ⟨w.heap.size, 0, none⟩ = some (.int .i64 x.t) ∧ w'.cell? ⟨w.heap.size, 1, none⟩ = some (.int .i64 x.k) ∧ w'.cell? ⟨w.heap.size, 2, none⟩ = some (.slice x.A x.m x.c))
        (first | exact hS0.out | exact hS4.out | exact hS5.out | go_keep)
        (first
          | (refine E26.step2 rfl (.tmp 23) (.tmp 24) rfl (.slice (some ⟨w3.heap.size, 0, none⟩) 0 0) X n c rfl rfl w3.heap.size 0 [] (enFlat l) n _ (Nat.zero_add _) (List.nil_append _) hOa.out hfl (HSl.out.src (HKa.out)) (enFlat_one l) (by omega) (by unfold maxLen; omega) (by first | omega | (simp; done) | (simp; omega)) ?_
             intro A1 d1 w4 ho4 hg4 _
             have HO4 := hid ho4
             have hk4 : Keep (fun i => w3.heap.size ≤ i) w3 w4 := (HKa.out.wide (fun _ _ f => f.elim)).grown hg4 (fun g e hl => by simp [Value.ownBlock] at e; omega)
             have HK4 := hid hk4
             have hSa : Hid (0 < 1 → ∃ ad, (some ⟨w4.heap.size, 0, none⟩ : Option Addr) = some ad ∧ ∀ j u, (x.cells)[j]? = some u → (w4.alloc (.cells #[.int .i64 x.t, .int .i64 x.k, .slice x.A x.m x.c] 46)).cell? (ad.add j) = some u) := hid (fun _ => ⟨_, rfl, src_new (w := w4) rfl⟩)
             have hS4 : Hid (w4.cell? ⟨w.heap.size, 0, none⟩ = some (.int .i64 x.t) ∧ w4.cell? ⟨w.heap.size, 1, none⟩ = some (.int .i64 x.k) ∧ w4.cell? ⟨w.heap.size, 2, none⟩ = some (.slice x.A x.m x.c)) := hid ⟨(HB3.out.keep hk4 (by have := HB3.out.lt; omega)).at_ 0, (HB3.out.keep hk4 (by have := HB3.out.lt; omega)).at_ 1, (HB3.out.keep hk4 (by have := HB3.out.lt; omega)).at_ 2⟩
             have hc0 : w4.cell? ⟨w.heap.size, 0, none⟩ = some (.int .i64 x.t) := (HB3.out.keep hk4 (by have := HB3.out.lt; omega)).at_ 0
             have hc1 : w4.cell? ⟨w.heap.size, 1, none⟩ = some (.int .i64 x.k) := (HB3.out.keep hk4 (by have := HB3.out.lt; omega)).at_ 1
             have hc2 : w4.cell? ⟨w.heap.size, 2, none⟩ = some (.slice x.A x.m x.c) := (HB3.out.keep hk4 (by have := HB3.out.lt; omega)).at_ 2
             have hle4 : w3.heap.size ≤ w4.heap.size := hk4.size
             clear ho4 hg4 hk4)
          | (refine E26.step2 rfl (.tmp 25) (.tmp 27) rfl (.slice A1 n d1) (some ⟨w4.heap.size, 0, none⟩) 1 1 rfl rfl w3.heap.size n _ (x.cells) _ _ rfl rfl (World.ownsRow.alloc HO4.out (.cells #[.int .i64 x.t, .int .i64 x.k, .slice x.A x.m x.c] 46)) rfl (hSa.out) (hOne.out) (by omega) (by unfold maxLen; omega) (by first | omega | (simp; omega)) ?_
             intro A2 d2 w5 ho5 hg5 _
             have hk5 := (HK4.out.alloc (.cells #[.int .i64 x.t, .int .i64 x.k, .slice x.A x.m x.c] 46)).grown hg5 (fun g e _ => HO4.out.block g e)
             have hS5 : Hid (w5.cell? ⟨w.heap.size, 0, none⟩ = some (.int .i64 x.t) ∧ w5.cell? ⟨w.heap.size, 1, none⟩ = some (.int .i64 x.k) ∧ w5.cell? ⟨w.heap.size, 2, none⟩ = some (.slice x.A x.m x.c)) := hid ⟨(HB3.out.keep hk5 (by have := HB3.out.lt; omega)).at_ 0, (HB3.out.keep hk5 (by have := HB3.out.lt; omega)).at_ 1, (HB3.out.keep hk5 (by have := HB3.out.lt; omega)).at_ 2⟩
             have HO9 := hid ho5
             have HK9 := hid hk5
             clear ho5 hg5 hk5)
          | (refine E26.step2 rfl (.tmp 23) (.tmp 24) rfl (.slice (some ⟨w3.heap.size, 0, none⟩) 0 0) X n c rfl rfl w3.heap.size 0 [] (enFlat l) n _ (Nat.zero_add _) (List.nil_append _) hOb.out hfl (HSl.out.src (HKb.out)) (enFlat_one l) (by omega) (by unfold maxLen; omega) (by first | omega | (simp; done) | (simp; omega)) ?_
             intro A1 d1 w4b ho4 hg4 _
             have HO4b := hid ho4
             have hk4 : Keep (fun i => w3.heap.size ≤ i) w3 w4b := (HKb.out.wide (fun _ _ f => f.elim)).grown hg4 (fun g e hl => by simp [Value.ownBlock] at e; omega)
             have HK4b := hid hk4
             have hB4 := hid (HBb.out.keep (((Keep.refl (· = w3.heap.size) ((w3.alloc (.cells #[] 46)).alloc (.cells #[.int .i64 x.t, .int .i64 x.k, .slice x.A x.m x.c] 46)))).drew.grown hg4 (fun g e _ => by simp [Value.ownBlock] at e; omega)) (by omega))
             have hSb : Hid (0 < 1 → ∃ ad, (some ⟨w3.heap.size + 1, 0, none⟩ : Option Addr) = some ad ∧ ∀ j u, (x.cells)[j]? = some u → w4b.cell? (ad.add j) = some u) := hid (fun _ => ⟨_, rfl, src_blk hB4.out⟩)
             clear hB4
             have hS4 : Hid (w4b.cell? ⟨w.heap.size, 0, none⟩ = some (.int .i64 x.t) ∧ w4b.cell? ⟨w.heap.size, 1, none⟩ = some (.int .i64 x.k) ∧ w4b.cell? ⟨w.heap.size, 2, none⟩ = some (.slice x.A x.m x.c)) := hid ⟨(HB3.out.keep hk4 (by have := HB3.out.lt; omega)).at_ 0, (HB3.out.keep hk4 (by have := HB3.out.lt; omega)).at_ 1, (HB3.out.keep hk4 (by have := HB3.out.lt; omega)).at_ 2⟩
             have hc0 : w4b.cell? ⟨w.heap.size, 0, none⟩ = some (.int .i64 x.t) := (HB3.out.keep hk4 (by have := HB3.out.lt; omega)).at_ 0
             have hc1 : w4b.cell? ⟨w.heap.size, 1, none⟩ = some (.int .i64 x.k) := (HB3.out.keep hk4 (by have := HB3.out.lt; omega)).at_ 1
             have hc2 : w4b.cell? ⟨w.heap.size, 2, none⟩ = some (.slice x.A x.m x.c) := (HB3.out.keep hk4 (by have := HB3.out.lt; omega)).at_ 2
             have hle4 : w3.heap.size ≤ w4b.heap.size := hk4.size
             clear ho4 hg4 hk4)
          | (refine E26.step2 rfl (.tmp 25) (.tmp 27) rfl (.slice A1 n d1) (some ⟨w3.heap.size + 1, 0, none⟩) 1 1 rfl rfl w3.heap.size n _ (x.cells) _ _ rfl rfl HO4b.out rfl (hSb.out) (hOne.out) (by omega) (by unfold maxLen; omega) (by first | omega | (simp; omega)) ?_
             intro A2 d2 w5 ho5 hg5 _
             have hk5 := HK4b.out.grown hg5 (fun g e _ => HO4b.out.block g e)
             have hS5 : Hid (w5.cell? ⟨w.heap.size, 0, none⟩ = some (.int .i64 x.t) ∧ w5.cell? ⟨w.heap.size, 1, none⟩ = some (.int .i64 x.k) ∧ w5.cell? ⟨w.heap.size, 2, none⟩ = some (.slice x.A x.m x.c)) := hid ⟨(HB3.out.keep hk5 (by have := HB3.out.lt; omega)).at_ 0, (HB3.out.keep hk5 (by have := HB3.out.lt; omega)).at_ 1, (HB3.out.keep hk5 (by have := HB3.out.lt; omega)).at_ 2⟩
             have HO9 := hid ho5
             have HK9 := hid hk5
             clear ho5 hg5 hk5)
          | (refine E26.step2 rfl (.tmp 23) (.tmp 24) rfl (.slice (some ⟨w3.heap.size + 1, 0, none⟩) 0 0) X n c rfl rfl w3.heap.size 0 [] (enFlat l) n _ (Nat.zero_add _) (List.nil_append _) hOc.out hfl (HSl.out.src (HKc.out)) (enFlat_one l) (by omega) (by unfold maxLen; omega) (by first | omega | (simp; done) | (simp; omega)) ?_
             intro A1 d1 w4c ho4 hg4 _
             have HO4c := hid ho4
             have hk4 : Keep (fun i => w3.heap.size ≤ i) w3 w4c := (HKc.out.wide (fun _ _ f => f.elim)).grown hg4 (fun g e hl => by simp [Value.ownBlock] at e; omega)
             have HK4c := hid hk4
             have hB4 := hid (HBc.out.keep (((Keep.refl (· = w3.heap.size + 1) ((w3.alloc (.cells #[.int .i64 x.t, .int .i64 x.k, .slice x.A x.m x.c] 46)).alloc (.cells #[] 46)))).drew.grown hg4 (fun g e _ => by simp [Value.ownBlock] at e; omega)) (by omega))
             have hSc : Hid (0 < 1 → ∃ ad, (some ⟨w3.heap.size, 0, none⟩ : Option Addr) = some ad ∧ ∀ j u, (x.cells)[j]? = some u → w4c.cell? (ad.add j) = some u) := hid (fun _ => ⟨_, rfl, src_blk hB4.out⟩)
             clear hB4
             have hS4 : Hid (w4c.cell? ⟨w.heap.size, 0, none⟩ = some (.int .i64 x.t) ∧ w4c.cell? ⟨w.heap.size, 1, none⟩ = some (.int .i64 x.k) ∧ w4c.cell? ⟨w.heap.size, 2, none⟩ = some (.slice x.A x.m x.c)) := hid ⟨(HB3.out.keep hk4 (by have := HB3.out.lt; omega)).at_ 0, (HB3.out.keep hk4 (by have := HB3.out.lt; omega)).at_ 1, (HB3.out.keep hk4 (by have := HB3.out.lt; omega)).at_ 2⟩
             have hc0 : w4c.cell? ⟨w.heap.size, 0, none⟩ = some (.int .i64 x.t) := (HB3.out.keep hk4 (by have := HB3.out.lt; omega)).at_ 0
             have hc1 : w4c.cell? ⟨w.heap.size, 1, none⟩ = some (.int .i64 x.k) := (HB3.out.keep hk4 (by have := HB3.out.lt; omega)).at_ 1
             have hc2 : w4c.cell? ⟨w.heap.size, 2, none⟩ = some (.slice x.A x.m x.c) := (HB3.out.keep hk4 (by have := HB3.out.lt; omega)).at_ 2
             have hle4 : w3.heap.size ≤ w4c.heap.size := hk4.size
             clear ho4 hg4 hk4)
          | (refine E26.step2 rfl (.tmp 25) (.tmp 27) rfl (.slice A1 n d1) (some ⟨w3.heap.size, 0, none⟩) 1 1 rfl rfl w3.heap.size n _ (x.cells) _ _ rfl rfl HO4c.out rfl (hSc.out) (hOne.out) (by omega) (by unfold maxLen; omega) (by first | omega | (simp; omega)) ?_
             intro A2 d2 w5 ho5 hg5 _
             have hk5 := HK4c.out.grown hg5 (fun g e _ => HO4c.out.block g e)
             have hS5 : Hid (w5.cell? ⟨w.heap.size, 0, none⟩ = some (.int .i64 x.t) ∧ w5.cell? ⟨w.heap.size, 1, none⟩ = some (.int .i64 x.k) ∧ w5.cell? ⟨w.heap.size, 2, none⟩ = some (.slice x.A x.m x.c)) := hid ⟨(HB3.out.keep hk5 (by have := HB3.out.lt; omega)).at_ 0, (HB3.out.keep hk5 (by have := HB3.out.lt; omega)).at_ 1, (HB3.out.keep hk5 (by have := HB3.out.lt; omega)).at_ 2⟩
             have HO9 := hid ho5
             have HK9 := hid hk5
             clear ho5 hg5 hk5))
      all_goals
        go_wp2_with fail
        go_ret3
        have HW : Hid (Same w w5) := hid (HK3.out.trans HK9.out (fun i hi h => by have := HK3.out.size; omega))
        have hl' : (l ++ [x]).length = n + 1 := by simp [hl]
        have hcap : n + 1 ≤ d2 := by
          obtain ⟨_, _, _, _, _, h1, _⟩ := HO9.out.open_ (by omega)
          exact h1
        refine ⟨A2, d2, by rw [hl', IntWalk.i64_in _ (by omega)]; rfl, ⟨rfl, ?_, ?_, by omega⟩, HW.out⟩
        · rw [hl']
          have := HO9.out.sl (Av := Av) (fun g hg h => by have := hAv g h; have := HK3.out.size; omega)
          simpa [enFlat] using this
        · intro e he
          rcases List.mem_append.1 he with he | he
          · exact (HL.out.el e he).same HW.out
          · simp at he
            subst he
            exact HX.out.same HW.out
  · have hr' : rightP x.pe = false := by simpa using hr
    rw [hr'] at HR
    have e8 : addErr En.pe l x = 1 := by unfold addErr; rw [if_neg hr]
    have e1 : addL En.pe l x = l := by unfold addL; rw [e8]; rfl
    have e2 : addN En.pe l x = 0 := by unfold addN; rw [e8]; rfl
    rw [e8, e1, e2]
    go_enter Try.func41, Try.ntmps41
    go_wp2_with (go_at_call 31; refine HR.out.mono ?_; rintro e w2 ⟨rfl, hk2⟩)
    go_ret3
    exact ⟨X, c, by rw [hl]; rfl, by rw [hl]; exact HL.out.same (HK1.out.then hk2), HK1.out.then hk2⟩
end Go.Proofs.Ytbellndcgagclaa

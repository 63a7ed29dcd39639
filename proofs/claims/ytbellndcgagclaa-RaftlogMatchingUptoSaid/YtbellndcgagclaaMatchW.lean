import Derived.Test.YtbellndcgagclaaPutQ
namespace Go.Proofs.Ytbellndcgagclaa
open Go.RowKit
theorem LogAt.keep {S Av : Nat → Prop} {w w' : World} {lb : Nat} {q : List PE} (h : LogAt w Av lb q) (hk : Keep S w w') (hS : ∀ i, i < w.heap.size → S i → Av i) : LogAt w' Av lb q := by
  obtain ⟨r, A, c, l, h1, h2⟩ := h; exact ⟨r, A, c, l, h1.keep hk hS, h2⟩
def AvG (a b c i : Nat) : Prop := i < a ∨ (b ≤ i ∧ i < c)
set_option maxHeartbeats 16000000 in
set_option maxRecDepth 100000 in
theorem raftlogMatching_walk (W : World) (X : Option Addr) (n c : Nat) (l : List LAct) (h : As W (fun _ => False) X n c l) (Y : Option Addr) (m d : Nat) (l2 : List LAct) (h2 : As W (fun _ => False) Y m d l2) (hf2 : Few l2) (a : LAct) (ha : Ls W (fun _ => False) a.X a.n a.c a.es) (hf : Few (l ++ [a])) (hn : n ≤ 1048576) :
    Calls Try.prog 4 #[.slice X n c, .slice Y m d, .agg #[.bool a.put, .int .i64 a.prev, .int .i64 a.term, .slice a.X a.n a.c]] W (PlainPost W true) := by
  have Ha := hid ha
  have HSl0 := hid h.sl
  have hfl : (actFlat l).length = n * 4 := by rw [actFlat_len, h.len]
  have HS := hid (fun w5 A2 d2 (ho : Own w5 0 33 4 (.slice A2 (n + 1) d2) (n + 1) (actFlat l ++ a.cells)) (hk : Same W w5) => small_any w5 (fun _ => False) A2 (n + 1) d2 (l ++ [a]) (h.snoc ha hk ho) hf)
  have HS2 := hid (fun w (hs : Same W w) => small_any w (fun _ => False) Y m d l2 (h2.same hs) hf2)
  have HP := hid (fun w (hs : Same W w) => play_any w (fun _ => False) X n c l (h.same hs))
  have HP2 := hid (fun w (hs : Same W w) => play_any w (fun _ => False) Y m d l2 (h2.same hs))
  have HK0 := hid ((Keep.refl (fun _ => False) W).alloc (.cells #[.bool a.put, .int .i64 a.prev, .int .i64 a.term, .slice a.X a.n a.c] 33))
  have HB0 := hid (Blk.made W 33 #[.bool a.put, .int .i64 a.prev, .int .i64 a.term, .slice a.X a.n a.c])
  clear h ha hf h2 hf2
  by_cases hsm : smallA (l ++ [a]) = true
  · by_cases hsm2 : smallA l2 = true
    · obtain ⟨hL, hT2⟩ := smallA_snoc hsm
      have hl2 := hid (smallA_ok hsm2)
      have hT : (ents l).length ≤ 120 := by omega
      have han : a.n ≤ 120 := by have := Ha.out.len; omega
      have hq := playQ_le hT
      have hq2 := playQ_le hl2.out.2
      generalize playQ l = q at *
      generalize playQ l2 = q2 at *
      have hcl := hid (comm_le q q2)
      by_cases hcm : (comm id q q2 : Int) < a.prev
      · go_enter Try.func4, Try.ntmps4
        go_wp2_with (first
          | (go_at_call 11; (with_reducible refine (wakes_any _).mono ?_); rintro e w1 ⟨rfl, hk1⟩
             have HK1 := hid (HK0.out.then hk1)
             have HB1 := hid (HB0.out.keep hk1 (fun f => f))
             clear hk1))
        have HSl := hid (HSl0.out.same HK1.out)
        have c0 : w1.cell? ⟨W.heap.size, 0, none⟩ = some (.bool a.put) := HB1.out.at_ 0
        have c1 : w1.cell? ⟨W.heap.size, 1, none⟩ = some (.int .i64 a.prev) := HB1.out.at_ 1
        have c2 : w1.cell? ⟨W.heap.size, 2, none⟩ = some (.int .i64 a.term) := HB1.out.at_ 2
        have c3 : w1.cell? ⟨W.heap.size, 3, none⟩ = some (.slice a.X a.n a.c) := HB1.out.at_ 3
        have hlt : W.heap.size < w1.heap.size := HB1.out.lt
        have HSm := hid (fun w5 A2 d2 (ho : Own w5 w1.heap.size 33 4 (.slice A2 (n + 1) d2) (n + 1) (actFlat l ++ a.cells)) (hk : Keep (fun i => w1.heap.size ≤ i) w1 w5) => HS.out w5 A2 d2 (ho.rebase (fun _ _ => Nat.zero_le _)) (HK1.out.then hk.own))
        rw [hsm] at HSm
        rw [hsm2] at HS2
        have hS0 : Hid (w1.drew.cell? ⟨W.heap.size, 0, none⟩ = some (.bool a.put) ∧ w1.drew.cell? ⟨W.heap.size, 1, none⟩ = some (.int .i64 a.prev) ∧ w1.drew.cell? ⟨W.heap.size, 2, none⟩ = some (.int .i64 a.term) ∧ w1.drew.cell? ⟨W.heap.size, 3, none⟩ = some (.slice a.X a.n a.c)) := hid ⟨HB1.out.at_ 0, HB1.out.at_ 1, HB1.out.at_ 2, HB1.out.at_ 3⟩
        have hOa := hid (World.ownsRow_made (base := w1.heap.size) (e := 33) (size := 4) w1 #[] 0 (Nat.le_refl _) (by simp [maxLen]) rfl)
        have hOb := hid (World.ownsRow.alloc hOa.out (.cells #[.bool a.put, .int .i64 a.prev, .int .i64 a.term, .slice a.X a.n a.c] 33))
        have hOc := hid (World.ownsRow_made (base := w1.heap.size) (e := 33) (size := 4) (w1.alloc (.cells #[.bool a.put, .int .i64 a.prev, .int .i64 a.term, .slice a.X a.n a.c] 33)) #[] 0 (by simp) (by simp [maxLen]) rfl)
        rw [World.size_alloc] at hOc
        have hBb := (Blk.made (w1.alloc (.cells #[] 33)) 33 #[.bool a.put, .int .i64 a.prev, .int .i64 a.term, .slice a.X a.n a.c])
        rw [World.size_alloc] at hBb
        have HBb := hid hBb
        have HBc := hid ((Blk.made w1 33 #[.bool a.put, .int .i64 a.prev, .int .i64 a.term, .slice a.X a.n a.c]).alloc (.cells #[] 33))
        have HKa := hid (((Keep.refl (fun _ => False) w1).alloc (.cells #[] 33)).drew)
        have HKb := hid ((((Keep.refl (fun _ => False) w1).alloc (.cells #[] 33)).alloc (.cells #[.bool a.put, .int .i64 a.prev, .int .i64 a.term, .slice a.X a.n a.c] 33)).drew)
        have HKc := hid ((((Keep.refl (fun _ => False) w1).alloc (.cells #[.bool a.put, .int .i64 a.prev, .int .i64 a.term, .slice a.X a.n a.c] 33)).alloc (.cells #[] 33)).drew)
        have hOne : Hid (∀ u ∈ a.cells, u.oneCell' = true) := hid (by intro u hu; exact actFlat_one [a] u (by simpa [actFlat] using hu))
        clear hBb
        go_region_held3 (fun w' => w'.cell? ⟨W.heap.size, 0, none⟩ = some (.bool a.put) ∧ w'.cell? ⟨W.heap.size, 1, none⟩ = some (.int .i64 a.prev) ∧ w'.cell? ⟨W.heap.size, 2, none⟩ = some (.int .i64 a.term) ∧ w'.cell? ⟨W.heap.size, 3, none⟩ = some (.slice a.X a.n a.c))
          (first | exact hS0.out | exact hS4.out | exact hS5.out | exact hS6.out | exact hS7.out | go_keep)
          (first
            | (refine E22.step2 rfl (.tmp 17) (.tmp 18) rfl (.slice (some ⟨w1.heap.size, 0, none⟩) 0 0) X n c rfl rfl w1.heap.size 0 [] (actFlat l) n _ (Nat.zero_add _) (List.nil_append _) hOa.out hfl (HSl.out.src (HKa.out)) (actFlat_one l) (by omega) (by unfold maxLen; omega) (by first | omega | (simp; done) | (simp; omega)) ?_
               intro A1 d1 w4 ho4 hg4 _
               have HO4 := hid ho4
               have hk4 : Keep (fun i => w1.heap.size ≤ i) w1 w4 := (HKa.out.wide (fun _ _ f => f.elim)).grown hg4 (fun g e hl => by simp [Value.ownBlock] at e; omega)
               have HK4 := hid hk4
               have hSa : Hid (0 < 1 → ∃ ad, (some ⟨w4.heap.size, 0, none⟩ : Option Addr) = some ad ∧ ∀ j u, (a.cells)[j]? = some u → (w4.alloc (.cells #[.bool a.put, .int .i64 a.prev, .int .i64 a.term, .slice a.X a.n a.c] 33)).cell? (ad.add j) = some u) := hid (fun _ => ⟨_, rfl, src_new (w := w4) rfl⟩)
               have hS4 : Hid (w4.cell? ⟨W.heap.size, 0, none⟩ = some (.bool a.put) ∧ w4.cell? ⟨W.heap.size, 1, none⟩ = some (.int .i64 a.prev) ∧ w4.cell? ⟨W.heap.size, 2, none⟩ = some (.int .i64 a.term) ∧ w4.cell? ⟨W.heap.size, 3, none⟩ = some (.slice a.X a.n a.c)) := hid ⟨(HB1.out.keep hk4 (by have := HB1.out.lt; omega)).at_ 0, (HB1.out.keep hk4 (by have := HB1.out.lt; omega)).at_ 1, (HB1.out.keep hk4 (by have := HB1.out.lt; omega)).at_ 2, (HB1.out.keep hk4 (by have := HB1.out.lt; omega)).at_ 3⟩
               have hc0 : w4.cell? ⟨W.heap.size, 0, none⟩ = some (.bool a.put) := (HB1.out.keep hk4 (by have := HB1.out.lt; omega)).at_ 0
               have hc1 : w4.cell? ⟨W.heap.size, 1, none⟩ = some (.int .i64 a.prev) := (HB1.out.keep hk4 (by have := HB1.out.lt; omega)).at_ 1
               have hc2 : w4.cell? ⟨W.heap.size, 2, none⟩ = some (.int .i64 a.term) := (HB1.out.keep hk4 (by have := HB1.out.lt; omega)).at_ 2
               have hc3 : w4.cell? ⟨W.heap.size, 3, none⟩ = some (.slice a.X a.n a.c) := (HB1.out.keep hk4 (by have := HB1.out.lt; omega)).at_ 3
               have hle4 : w1.heap.size ≤ w4.heap.size := hk4.size
               clear ho4 hg4 hk4)
            | (refine E22.step2 rfl (.tmp 19) (.tmp 21) rfl (.slice A1 n d1) (some ⟨w4.heap.size, 0, none⟩) 1 1 rfl rfl w1.heap.size n _ (a.cells) _ _ rfl rfl (World.ownsRow.alloc HO4.out (.cells #[.bool a.put, .int .i64 a.prev, .int .i64 a.term, .slice a.X a.n a.c] 33)) rfl (hSa.out) (hOne.out) (by omega) (by unfold maxLen; omega) (by first | omega | (simp; omega)) ?_
               intro A2 d2 w5 ho5 hg5 _
               have hk5 := (HK4.out.alloc (.cells #[.bool a.put, .int .i64 a.prev, .int .i64 a.term, .slice a.X a.n a.c] 33)).grown hg5 (fun g e _ => HO4.out.block g e)
               have hS5 : Hid (w5.cell? ⟨W.heap.size, 0, none⟩ = some (.bool a.put) ∧ w5.cell? ⟨W.heap.size, 1, none⟩ = some (.int .i64 a.prev) ∧ w5.cell? ⟨W.heap.size, 2, none⟩ = some (.int .i64 a.term) ∧ w5.cell? ⟨W.heap.size, 3, none⟩ = some (.slice a.X a.n a.c)) := hid ⟨(HB1.out.keep hk5 (by have := HB1.out.lt; omega)).at_ 0, (HB1.out.keep hk5 (by have := HB1.out.lt; omega)).at_ 1, (HB1.out.keep hk5 (by have := HB1.out.lt; omega)).at_ 2, (HB1.out.keep hk5 (by have := HB1.out.lt; omega)).at_ 3⟩
               have HO9 := hid ho5
               have HK9 := hid hk5
               have HS9 := hid (HSm.out _ _ _ ho5 hk5)
               clear ho5 hg5 hk5)
            | (refine E22.step2 rfl (.tmp 17) (.tmp 18) rfl (.slice (some ⟨w1.heap.size, 0, none⟩) 0 0) X n c rfl rfl w1.heap.size 0 [] (actFlat l) n _ (Nat.zero_add _) (List.nil_append _) hOb.out hfl (HSl.out.src (HKb.out)) (actFlat_one l) (by omega) (by unfold maxLen; omega) (by first | omega | (simp; done) | (simp; omega)) ?_
               intro A1 d1 w4b ho4 hg4 _
               have HO4b := hid ho4
               have hk4 : Keep (fun i => w1.heap.size ≤ i) w1 w4b := (HKb.out.wide (fun _ _ f => f.elim)).grown hg4 (fun g e hl => by simp [Value.ownBlock] at e; omega)
               have HK4b := hid hk4
               have hB4 := hid (HBb.out.keep (((Keep.refl (· = w1.heap.size) ((w1.alloc (.cells #[] 33)).alloc (.cells #[.bool a.put, .int .i64 a.prev, .int .i64 a.term, .slice a.X a.n a.c] 33)))).drew.grown hg4 (fun g e _ => by simp [Value.ownBlock] at e; omega)) (by omega))
               have hSb : Hid (0 < 1 → ∃ ad, (some ⟨w1.heap.size + 1, 0, none⟩ : Option Addr) = some ad ∧ ∀ j u, (a.cells)[j]? = some u → w4b.cell? (ad.add j) = some u) := hid (fun _ => ⟨_, rfl, src_blk hB4.out⟩)
               clear hB4
               have hS4 : Hid (w4b.cell? ⟨W.heap.size, 0, none⟩ = some (.bool a.put) ∧ w4b.cell? ⟨W.heap.size, 1, none⟩ = some (.int .i64 a.prev) ∧ w4b.cell? ⟨W.heap.size, 2, none⟩ = some (.int .i64 a.term) ∧ w4b.cell? ⟨W.heap.size, 3, none⟩ = some (.slice a.X a.n a.c)) := hid ⟨(HB1.out.keep hk4 (by have := HB1.out.lt; omega)).at_ 0, (HB1.out.keep hk4 (by have := HB1.out.lt; omega)).at_ 1, (HB1.out.keep hk4 (by have := HB1.out.lt; omega)).at_ 2, (HB1.out.keep hk4 (by have := HB1.out.lt; omega)).at_ 3⟩
               have hc0 : w4b.cell? ⟨W.heap.size, 0, none⟩ = some (.bool a.put) := (HB1.out.keep hk4 (by have := HB1.out.lt; omega)).at_ 0
               have hc1 : w4b.cell? ⟨W.heap.size, 1, none⟩ = some (.int .i64 a.prev) := (HB1.out.keep hk4 (by have := HB1.out.lt; omega)).at_ 1
               have hc2 : w4b.cell? ⟨W.heap.size, 2, none⟩ = some (.int .i64 a.term) := (HB1.out.keep hk4 (by have := HB1.out.lt; omega)).at_ 2
               have hc3 : w4b.cell? ⟨W.heap.size, 3, none⟩ = some (.slice a.X a.n a.c) := (HB1.out.keep hk4 (by have := HB1.out.lt; omega)).at_ 3
               have hle4 : w1.heap.size ≤ w4b.heap.size := hk4.size
               clear ho4 hg4 hk4)
            | (refine E22.step2 rfl (.tmp 19) (.tmp 21) rfl (.slice A1 n d1) (some ⟨w1.heap.size + 1, 0, none⟩) 1 1 rfl rfl w1.heap.size n _ (a.cells) _ _ rfl rfl HO4b.out rfl (hSb.out) (hOne.out) (by omega) (by unfold maxLen; omega) (by first | omega | (simp; omega)) ?_
               intro A2 d2 w5 ho5 hg5 _
               have hk5 := HK4b.out.grown hg5 (fun g e _ => HO4b.out.block g e)
               have hS5 : Hid (w5.cell? ⟨W.heap.size, 0, none⟩ = some (.bool a.put) ∧ w5.cell? ⟨W.heap.size, 1, none⟩ = some (.int .i64 a.prev) ∧ w5.cell? ⟨W.heap.size, 2, none⟩ = some (.int .i64 a.term) ∧ w5.cell? ⟨W.heap.size, 3, none⟩ = some (.slice a.X a.n a.c)) := hid ⟨(HB1.out.keep hk5 (by have := HB1.out.lt; omega)).at_ 0, (HB1.out.keep hk5 (by have := HB1.out.lt; omega)).at_ 1, (HB1.out.keep hk5 (by have := HB1.out.lt; omega)).at_ 2, (HB1.out.keep hk5 (by have := HB1.out.lt; omega)).at_ 3⟩
               have HO9 := hid ho5
               have HK9 := hid hk5
               have HS9 := hid (HSm.out _ _ _ ho5 hk5)
               clear ho5 hg5 hk5)
            | (refine E22.step2 rfl (.tmp 17) (.tmp 18) rfl (.slice (some ⟨w1.heap.size + 1, 0, none⟩) 0 0) X n c rfl rfl w1.heap.size 0 [] (actFlat l) n _ (Nat.zero_add _) (List.nil_append _) hOc.out hfl (HSl.out.src (HKc.out)) (actFlat_one l) (by omega) (by unfold maxLen; omega) (by first | omega | (simp; done) | (simp; omega)) ?_
               intro A1 d1 w4c ho4 hg4 _
               have HO4c := hid ho4
               have hk4 : Keep (fun i => w1.heap.size ≤ i) w1 w4c := (HKc.out.wide (fun _ _ f => f.elim)).grown hg4 (fun g e hl => by simp [Value.ownBlock] at e; omega)
               have HK4c := hid hk4
               have hB4 := hid (HBc.out.keep (((Keep.refl (· = w1.heap.size + 1) ((w1.alloc (.cells #[.bool a.put, .int .i64 a.prev, .int .i64 a.term, .slice a.X a.n a.c] 33)).alloc (.cells #[] 33)))).drew.grown hg4 (fun g e _ => by simp [Value.ownBlock] at e; omega)) (by omega))
               have hSc : Hid (0 < 1 → ∃ ad, (some ⟨w1.heap.size, 0, none⟩ : Option Addr) = some ad ∧ ∀ j u, (a.cells)[j]? = some u → w4c.cell? (ad.add j) = some u) := hid (fun _ => ⟨_, rfl, src_blk hB4.out⟩)
               clear hB4
               have hS4 : Hid (w4c.cell? ⟨W.heap.size, 0, none⟩ = some (.bool a.put) ∧ w4c.cell? ⟨W.heap.size, 1, none⟩ = some (.int .i64 a.prev) ∧ w4c.cell? ⟨W.heap.size, 2, none⟩ = some (.int .i64 a.term) ∧ w4c.cell? ⟨W.heap.size, 3, none⟩ = some (.slice a.X a.n a.c)) := hid ⟨(HB1.out.keep hk4 (by have := HB1.out.lt; omega)).at_ 0, (HB1.out.keep hk4 (by have := HB1.out.lt; omega)).at_ 1, (HB1.out.keep hk4 (by have := HB1.out.lt; omega)).at_ 2, (HB1.out.keep hk4 (by have := HB1.out.lt; omega)).at_ 3⟩
               have hc0 : w4c.cell? ⟨W.heap.size, 0, none⟩ = some (.bool a.put) := (HB1.out.keep hk4 (by have := HB1.out.lt; omega)).at_ 0
               have hc1 : w4c.cell? ⟨W.heap.size, 1, none⟩ = some (.int .i64 a.prev) := (HB1.out.keep hk4 (by have := HB1.out.lt; omega)).at_ 1
               have hc2 : w4c.cell? ⟨W.heap.size, 2, none⟩ = some (.int .i64 a.term) := (HB1.out.keep hk4 (by have := HB1.out.lt; omega)).at_ 2
               have hc3 : w4c.cell? ⟨W.heap.size, 3, none⟩ = some (.slice a.X a.n a.c) := (HB1.out.keep hk4 (by have := HB1.out.lt; omega)).at_ 3
               have hle4 : w1.heap.size ≤ w4c.heap.size := hk4.size
               clear ho4 hg4 hk4)
            | (refine E22.step2 rfl (.tmp 19) (.tmp 21) rfl (.slice A1 n d1) (some ⟨w1.heap.size, 0, none⟩) 1 1 rfl rfl w1.heap.size n _ (a.cells) _ _ rfl rfl HO4c.out rfl (hSc.out) (hOne.out) (by omega) (by unfold maxLen; omega) (by first | omega | (simp; omega)) ?_
               intro A2 d2 w5 ho5 hg5 _
               have hk5 := HK4c.out.grown hg5 (fun g e _ => HO4c.out.block g e)
               have hS5 : Hid (w5.cell? ⟨W.heap.size, 0, none⟩ = some (.bool a.put) ∧ w5.cell? ⟨W.heap.size, 1, none⟩ = some (.int .i64 a.prev) ∧ w5.cell? ⟨W.heap.size, 2, none⟩ = some (.int .i64 a.term) ∧ w5.cell? ⟨W.heap.size, 3, none⟩ = some (.slice a.X a.n a.c)) := hid ⟨(HB1.out.keep hk5 (by have := HB1.out.lt; omega)).at_ 0, (HB1.out.keep hk5 (by have := HB1.out.lt; omega)).at_ 1, (HB1.out.keep hk5 (by have := HB1.out.lt; omega)).at_ 2, (HB1.out.keep hk5 (by have := HB1.out.lt; omega)).at_ 3⟩
               have HO9 := hid ho5
               have HK9 := hid hk5
               have HS9 := hid (HSm.out _ _ _ ho5 hk5)
               clear ho5 hg5 hk5)
            | (go_at_call 12; (with_reducible refine HS9.out.mono ?_); rintro e w5b ⟨rfl, hk6⟩
               have HK5b := hid (HK9.out.then hk6)
               have hS6 : Hid (w5b.cell? ⟨W.heap.size, 0, none⟩ = some (.bool a.put) ∧ w5b.cell? ⟨W.heap.size, 1, none⟩ = some (.int .i64 a.prev) ∧ w5b.cell? ⟨W.heap.size, 2, none⟩ = some (.int .i64 a.term) ∧ w5b.cell? ⟨W.heap.size, 3, none⟩ = some (.slice a.X a.n a.c)) := hid ⟨(HB1.out.keep HK5b.out (by have := HB1.out.lt; omega)).at_ 0, (HB1.out.keep HK5b.out (by have := HB1.out.lt; omega)).at_ 1, (HB1.out.keep HK5b.out (by have := HB1.out.lt; omega)).at_ 2, (HB1.out.keep HK5b.out (by have := HB1.out.lt; omega)).at_ 3⟩
               have HS9b := hid (HS2.out w5b (HK1.out.then HK5b.out.own))
               clear hk6 HS9)
            | (go_at_call 12; (with_reducible refine HS9b.out.mono ?_); rintro e w6 ⟨rfl, hk6⟩
               have HK6 := hid (HK5b.out.then hk6)
               have hS7 : Hid (w6.cell? ⟨W.heap.size, 0, none⟩ = some (.bool a.put) ∧ w6.cell? ⟨W.heap.size, 1, none⟩ = some (.int .i64 a.prev) ∧ w6.cell? ⟨W.heap.size, 2, none⟩ = some (.int .i64 a.term) ∧ w6.cell? ⟨W.heap.size, 3, none⟩ = some (.slice a.X a.n a.c)) := hid ⟨(HB1.out.keep HK6.out (by have := HB1.out.lt; omega)).at_ 0, (HB1.out.keep HK6.out (by have := HB1.out.lt; omega)).at_ 1, (HB1.out.keep HK6.out (by have := HB1.out.lt; omega)).at_ 2, (HB1.out.keep HK6.out (by have := HB1.out.lt; omega)).at_ 3⟩
               clear hk6 HS9b))
        all_goals
          have HKs := hid (HK1.out.then HK6.out.own)
          have HB6 := hid (HB1.out.keep HK6.out (by have := HB1.out.lt; omega))
          have HPa := hid (HP.out _ HKs.out hT hL)
          go_wp2_with (first
            | (go_at_call 13; (with_reducible refine HPa.out.mono ?_); rintro e w7 ⟨lb, X4, n4, c4, rfl, hB4, hk4, hlb⟩
               have hn4 := hid hB4.len
               have HG7 := hid hB4.log
               have HX7 := hid hB4.ls
               have hk67 := hid hk4
               have HB7 := hid (HB6.out.keep hk4 (fun f => f))
               have HPb := hid (HP2.out _ (HKs.out.then hk4) hl2.out.2 hl2.out.1)
               clear hB4 hk4 HPa)
            | (go_at_call 13; (with_reducible refine HPb.out.mono ?_); rintro e w8 ⟨lb2, X5, n5, c5, rfl, hB5, hk5, hlb2⟩
               have hn5 := hid hB5.len
               have HH8 := hid hB5.log
               have hB8 := HB7.out.keep hk5 (fun f => f)
               have b1 : w8.cell? ⟨W.heap.size, 1, none⟩ = some (.int .i64 a.prev) := hB8.at_ 1
               have HB8 := hid hB8
               have hk78 := hid hk5
               have HG8 := hid (LogAt.same (HG7.out.wide (Av' := AvG w6.heap.size w7.heap.size w8.heap.size) (fun i hi hs => by
                 rcases hs with hs | hs
                 · exact hs
                 · omega)) hk5)
               have HC := hid (rcommon_at w8.drew _ _ _ _ _ _ _ _ _ _ ((HX7.out.same hk5).same (Keep.refl _ w8).drew) (hB5.ls.same (Keep.refl _ w8).drew) (by have := hn4.out; omega) (by have := hn5.out; omega))
               clear hB5 hk5 HPb hB8))
          go_region_held3 (fun V => V.cell? ⟨W.heap.size, 1, none⟩ = some (.int .i64 a.prev))
            (first | exact b1 | exact hS9.out | go_keep)
            (first
              | (go_at_call 15; (with_reducible refine HC.out.mono ?_); rintro e w9 ⟨rfl, hk9⟩
                 have hk89 := hid (((Keep.refl (fun _ => False) w8).drew).then hk9)
                 have hS9 : Hid (w9.cell? ⟨W.heap.size, 1, none⟩ = some (.int .i64 a.prev)) := hid ((HB8.out.keep hk89.out (fun f => f)).at_ 1)
                 clear hk9 HC))
          go_wp2_with fail
          go_ret
          exact ⟨rfl, HKs.out.then (hk67.out.then (hk78.out.then hk89.out))⟩
      · have hcm' : a.prev ≤ (comm id q q2 : Int) := by omega
        have hmt := matching (es := a.es.map En.pe) (term := a.term) hcm'
        have hq' := putL_len q a.prev a.term (a.es.map En.pe)
        have hq2' := putL_len q2 a.prev a.term (a.es.map En.pe)
        rw [List.length_map] at hq' hq2' hmt
        have hel := Ha.out.len
        have hpv : a.prev ≤ 120 := by have := hcl.out; omega
        have hpv2 : 0 ≤ a.prev ∨ putOk id q a.prev a.term (a.es.map En.pe) = false := by
          cases hx : putOk id q a.prev a.term (a.es.map En.pe) with
          | false => exact .inr rfl
          | true => exact .inl (putOk_parts hx).1
        cases hok : putOk id q a.prev a.term (a.es.map En.pe) with
        | false =>
          have hok2 : putOk id q2 a.prev a.term (a.es.map En.pe) = false := by rw [← hmt.1]; exact hok
          clear hmt hpv2
          go_enter Try.func4, Try.ntmps4
          go_wp2_with (first
            | (go_at_call 11; (with_reducible refine (wakes_any _).mono ?_); rintro e w1 ⟨rfl, hk1⟩
               have HK1 := hid (HK0.out.then hk1)
               have HB1 := hid (HB0.out.keep hk1 (fun f => f))
               clear hk1))
          have HSl := hid (HSl0.out.same HK1.out)
          have c0 : w1.cell? ⟨W.heap.size, 0, none⟩ = some (.bool a.put) := HB1.out.at_ 0
          have c1 : w1.cell? ⟨W.heap.size, 1, none⟩ = some (.int .i64 a.prev) := HB1.out.at_ 1
          have c2 : w1.cell? ⟨W.heap.size, 2, none⟩ = some (.int .i64 a.term) := HB1.out.at_ 2
          have c3 : w1.cell? ⟨W.heap.size, 3, none⟩ = some (.slice a.X a.n a.c) := HB1.out.at_ 3
          have hlt : W.heap.size < w1.heap.size := HB1.out.lt
          have HSm := hid (fun w5 A2 d2 (ho : Own w5 w1.heap.size 33 4 (.slice A2 (n + 1) d2) (n + 1) (actFlat l ++ a.cells)) (hk : Keep (fun i => w1.heap.size ≤ i) w1 w5) => HS.out w5 A2 d2 (ho.rebase (fun _ _ => Nat.zero_le _)) (HK1.out.then hk.own))
          rw [hsm] at HSm
          rw [hsm2] at HS2
          have hS0 : Hid (w1.drew.cell? ⟨W.heap.size, 0, none⟩ = some (.bool a.put) ∧ w1.drew.cell? ⟨W.heap.size, 1, none⟩ = some (.int .i64 a.prev) ∧ w1.drew.cell? ⟨W.heap.size, 2, none⟩ = some (.int .i64 a.term) ∧ w1.drew.cell? ⟨W.heap.size, 3, none⟩ = some (.slice a.X a.n a.c)) := hid ⟨HB1.out.at_ 0, HB1.out.at_ 1, HB1.out.at_ 2, HB1.out.at_ 3⟩
          have hOa := hid (World.ownsRow_made (base := w1.heap.size) (e := 33) (size := 4) w1 #[] 0 (Nat.le_refl _) (by simp [maxLen]) rfl)
          have hOb := hid (World.ownsRow.alloc hOa.out (.cells #[.bool a.put, .int .i64 a.prev, .int .i64 a.term, .slice a.X a.n a.c] 33))
          have hOc := hid (World.ownsRow_made (base := w1.heap.size) (e := 33) (size := 4) (w1.alloc (.cells #[.bool a.put, .int .i64 a.prev, .int .i64 a.term, .slice a.X a.n a.c] 33)) #[] 0 (by simp) (by simp [maxLen]) rfl)
          rw [World.size_alloc] at hOc
          have hBb := (Blk.made (w1.alloc (.cells #[] 33)) 33 #[.bool a.put, .int .i64 a.prev, .int .i64 a.term, .slice a.X a.n a.c])
          rw [World.size_alloc] at hBb
          have HBb := hid hBb
          have HBc := hid ((Blk.made w1 33 #[.bool a.put, .int .i64 a.prev, .int .i64 a.term, .slice a.X a.n a.c]).alloc (.cells #[] 33))
          have HKa := hid (((Keep.refl (fun _ => False) w1).alloc (.cells #[] 33)).drew)
          have HKb := hid ((((Keep.refl (fun _ => False) w1).alloc (.cells #[] 33)).alloc (.cells #[.bool a.put, .int .i64 a.prev, .int .i64 a.term, .slice a.X a.n a.c] 33)).drew)
          have HKc := hid ((((Keep.refl (fun _ => False) w1).alloc (.cells #[.bool a.put, .int .i64 a.prev, .int .i64 a.term, .slice a.X a.n a.c] 33)).alloc (.cells #[] 33)).drew)
          have hOne : Hid (∀ u ∈ a.cells, u.oneCell' = true) := hid (by intro u hu; exact actFlat_one [a] u (by simpa [actFlat] using hu))
          clear hBb
          go_region_held3 (fun w' => w'.cell? ⟨W.heap.size, 0, none⟩ = some (.bool a.put) ∧ w'.cell? ⟨W.heap.size, 1, none⟩ = some (.int .i64 a.prev) ∧ w'.cell? ⟨W.heap.size, 2, none⟩ = some (.int .i64 a.term) ∧ w'.cell? ⟨W.heap.size, 3, none⟩ = some (.slice a.X a.n a.c))
            (first | exact hS0.out | exact hS4.out | exact hS5.out | exact hS6.out | exact hS7.out | go_keep)
            (first
              | (refine E22.step2 rfl (.tmp 17) (.tmp 18) rfl (.slice (some ⟨w1.heap.size, 0, none⟩) 0 0) X n c rfl rfl w1.heap.size 0 [] (actFlat l) n _ (Nat.zero_add _) (List.nil_append _) hOa.out hfl (HSl.out.src (HKa.out)) (actFlat_one l) (by omega) (by unfold maxLen; omega) (by first | omega | (simp; done) | (simp; omega)) ?_
                 intro A1 d1 w4 ho4 hg4 _
                 have HO4 := hid ho4
                 have hk4 : Keep (fun i => w1.heap.size ≤ i) w1 w4 := (HKa.out.wide (fun _ _ f => f.elim)).grown hg4 (fun g e hl => by simp [Value.ownBlock] at e; omega)
                 have HK4 := hid hk4
                 have hSa : Hid (0 < 1 → ∃ ad, (some ⟨w4.heap.size, 0, none⟩ : Option Addr) = some ad ∧ ∀ j u, (a.cells)[j]? = some u → (w4.alloc (.cells #[.bool a.put, .int .i64 a.prev, .int .i64 a.term, .slice a.X a.n a.c] 33)).cell? (ad.add j) = some u) := hid (fun _ => ⟨_, rfl, src_new (w := w4) rfl⟩)
                 have hS4 : Hid (w4.cell? ⟨W.heap.size, 0, none⟩ = some (.bool a.put) ∧ w4.cell? ⟨W.heap.size, 1, none⟩ = some (.int .i64 a.prev) ∧ w4.cell? ⟨W.heap.size, 2, none⟩ = some (.int .i64 a.term) ∧ w4.cell? ⟨W.heap.size, 3, none⟩ = some (.slice a.X a.n a.c)) := hid ⟨(HB1.out.keep hk4 (by have := HB1.out.lt; omega)).at_ 0, (HB1.out.keep hk4 (by have := HB1.out.lt; omega)).at_ 1, (HB1.out.keep hk4 (by have := HB1.out.lt; omega)).at_ 2, (HB1.out.keep hk4 (by have := HB1.out.lt; omega)).at_ 3⟩
                 have hc0 : w4.cell? ⟨W.heap.size, 0, none⟩ = some (.bool a.put) := (HB1.out.keep hk4 (by have := HB1.out.lt; omega)).at_ 0
                 have hc1 : w4.cell? ⟨W.heap.size, 1, none⟩ = some (.int .i64 a.prev) := (HB1.out.keep hk4 (by have := HB1.out.lt; omega)).at_ 1
                 have hc2 : w4.cell? ⟨W.heap.size, 2, none⟩ = some (.int .i64 a.term) := (HB1.out.keep hk4 (by have := HB1.out.lt; omega)).at_ 2
                 have hc3 : w4.cell? ⟨W.heap.size, 3, none⟩ = some (.slice a.X a.n a.c) := (HB1.out.keep hk4 (by have := HB1.out.lt; omega)).at_ 3
                 have hle4 : w1.heap.size ≤ w4.heap.size := hk4.size
                 clear ho4 hg4 hk4)
              | (refine E22.step2 rfl (.tmp 19) (.tmp 21) rfl (.slice A1 n d1) (some ⟨w4.heap.size, 0, none⟩) 1 1 rfl rfl w1.heap.size n _ (a.cells) _ _ rfl rfl (World.ownsRow.alloc HO4.out (.cells #[.bool a.put, .int .i64 a.prev, .int .i64 a.term, .slice a.X a.n a.c] 33)) rfl (hSa.out) (hOne.out) (by omega) (by unfold maxLen; omega) (by first | omega | (simp; omega)) ?_
                 intro A2 d2 w5 ho5 hg5 _
                 have hk5 := (HK4.out.alloc (.cells #[.bool a.put, .int .i64 a.prev, .int .i64 a.term, .slice a.X a.n a.c] 33)).grown hg5 (fun g e _ => HO4.out.block g e)
                 have hS5 : Hid (w5.cell? ⟨W.heap.size, 0, none⟩ = some (.bool a.put) ∧ w5.cell? ⟨W.heap.size, 1, none⟩ = some (.int .i64 a.prev) ∧ w5.cell? ⟨W.heap.size, 2, none⟩ = some (.int .i64 a.term) ∧ w5.cell? ⟨W.heap.size, 3, none⟩ = some (.slice a.X a.n a.c)) := hid ⟨(HB1.out.keep hk5 (by have := HB1.out.lt; omega)).at_ 0, (HB1.out.keep hk5 (by have := HB1.out.lt; omega)).at_ 1, (HB1.out.keep hk5 (by have := HB1.out.lt; omega)).at_ 2, (HB1.out.keep hk5 (by have := HB1.out.lt; omega)).at_ 3⟩
                 have HO9 := hid ho5
                 have HK9 := hid hk5
                 have HS9 := hid (HSm.out _ _ _ ho5 hk5)
                 clear ho5 hg5 hk5)
              | (refine E22.step2 rfl (.tmp 17) (.tmp 18) rfl (.slice (some ⟨w1.heap.size, 0, none⟩) 0 0) X n c rfl rfl w1.heap.size 0 [] (actFlat l) n _ (Nat.zero_add _) (List.nil_append _) hOb.out hfl (HSl.out.src (HKb.out)) (actFlat_one l) (by omega) (by unfold maxLen; omega) (by first | omega | (simp; done) | (simp; omega)) ?_
                 intro A1 d1 w4b ho4 hg4 _
                 have HO4b := hid ho4
                 have hk4 : Keep (fun i => w1.heap.size ≤ i) w1 w4b := (HKb.out.wide (fun _ _ f => f.elim)).grown hg4 (fun g e hl => by simp [Value.ownBlock] at e; omega)
                 have HK4b := hid hk4
                 have hB4 := hid (HBb.out.keep (((Keep.refl (· = w1.heap.size) ((w1.alloc (.cells #[] 33)).alloc (.cells #[.bool a.put, .int .i64 a.prev, .int .i64 a.term, .slice a.X a.n a.c] 33)))).drew.grown hg4 (fun g e _ => by simp [Value.ownBlock] at e; omega)) (by omega))
                 have hSb : Hid (0 < 1 → ∃ ad, (some ⟨w1.heap.size + 1, 0, none⟩ : Option Addr) = some ad ∧ ∀ j u, (a.cells)[j]? = some u → w4b.cell? (ad.add j) = some u) := hid (fun _ => ⟨_, rfl, src_blk hB4.out⟩)
                 clear hB4
                 have hS4 : Hid (w4b.cell? ⟨W.heap.size, 0, none⟩ = some (.bool a.put) ∧ w4b.cell? ⟨W.heap.size, 1, none⟩ = some (.int .i64 a.prev) ∧ w4b.cell? ⟨W.heap.size, 2, none⟩ = some (.int .i64 a.term) ∧ w4b.cell? ⟨W.heap.size, 3, none⟩ = some (.slice a.X a.n a.c)) := hid ⟨(HB1.out.keep hk4 (by have := HB1.out.lt; omega)).at_ 0, (HB1.out.keep hk4 (by have := HB1.out.lt; omega)).at_ 1, (HB1.out.keep hk4 (by have := HB1.out.lt; omega)).at_ 2, (HB1.out.keep hk4 (by have := HB1.out.lt; omega)).at_ 3⟩
                 have hc0 : w4b.cell? ⟨W.heap.size, 0, none⟩ = some (.bool a.put) := (HB1.out.keep hk4 (by have := HB1.out.lt; omega)).at_ 0
                 have hc1 : w4b.cell? ⟨W.heap.size, 1, none⟩ = some (.int .i64 a.prev) := (HB1.out.keep hk4 (by have := HB1.out.lt; omega)).at_ 1
                 have hc2 : w4b.cell? ⟨W.heap.size, 2, none⟩ = some (.int .i64 a.term) := (HB1.out.keep hk4 (by have := HB1.out.lt; omega)).at_ 2
                 have hc3 : w4b.cell? ⟨W.heap.size, 3, none⟩ = some (.slice a.X a.n a.c) := (HB1.out.keep hk4 (by have := HB1.out.lt; omega)).at_ 3
                 have hle4 : w1.heap.size ≤ w4b.heap.size := hk4.size
                 clear ho4 hg4 hk4)
              | (refine E22.step2 rfl (.tmp 19) (.tmp 21) rfl (.slice A1 n d1) (some ⟨w1.heap.size + 1, 0, none⟩) 1 1 rfl rfl w1.heap.size n _ (a.cells) _ _ rfl rfl HO4b.out rfl (hSb.out) (hOne.out) (by omega) (by unfold maxLen; omega) (by first | omega | (simp; omega)) ?_
                 intro A2 d2 w5 ho5 hg5 _
                 have hk5 := HK4b.out.grown hg5 (fun g e _ => HO4b.out.block g e)
                 have hS5 : Hid (w5.cell? ⟨W.heap.size, 0, none⟩ = some (.bool a.put) ∧ w5.cell? ⟨W.heap.size, 1, none⟩ = some (.int .i64 a.prev) ∧ w5.cell? ⟨W.heap.size, 2, none⟩ = some (.int .i64 a.term) ∧ w5.cell? ⟨W.heap.size, 3, none⟩ = some (.slice a.X a.n a.c)) := hid ⟨(HB1.out.keep hk5 (by have := HB1.out.lt; omega)).at_ 0, (HB1.out.keep hk5 (by have := HB1.out.lt; omega)).at_ 1, (HB1.out.keep hk5 (by have := HB1.out.lt; omega)).at_ 2, (HB1.out.keep hk5 (by have := HB1.out.lt; omega)).at_ 3⟩
                 have HO9 := hid ho5
                 have HK9 := hid hk5
                 have HS9 := hid (HSm.out _ _ _ ho5 hk5)
                 clear ho5 hg5 hk5)
              | (refine E22.step2 rfl (.tmp 17) (.tmp 18) rfl (.slice (some ⟨w1.heap.size + 1, 0, none⟩) 0 0) X n c rfl rfl w1.heap.size 0 [] (actFlat l) n _ (Nat.zero_add _) (List.nil_append _) hOc.out hfl (HSl.out.src (HKc.out)) (actFlat_one l) (by omega) (by unfold maxLen; omega) (by first | omega | (simp; done) | (simp; omega)) ?_
                 intro A1 d1 w4c ho4 hg4 _
                 have HO4c := hid ho4
                 have hk4 : Keep (fun i => w1.heap.size ≤ i) w1 w4c := (HKc.out.wide (fun _ _ f => f.elim)).grown hg4 (fun g e hl => by simp [Value.ownBlock] at e; omega)
                 have HK4c := hid hk4
                 have hB4 := hid (HBc.out.keep (((Keep.refl (· = w1.heap.size + 1) ((w1.alloc (.cells #[.bool a.put, .int .i64 a.prev, .int .i64 a.term, .slice a.X a.n a.c] 33)).alloc (.cells #[] 33)))).drew.grown hg4 (fun g e _ => by simp [Value.ownBlock] at e; omega)) (by omega))
                 have hSc : Hid (0 < 1 → ∃ ad, (some ⟨w1.heap.size, 0, none⟩ : Option Addr) = some ad ∧ ∀ j u, (a.cells)[j]? = some u → w4c.cell? (ad.add j) = some u) := hid (fun _ => ⟨_, rfl, src_blk hB4.out⟩)
                 clear hB4
                 have hS4 : Hid (w4c.cell? ⟨W.heap.size, 0, none⟩ = some (.bool a.put) ∧ w4c.cell? ⟨W.heap.size, 1, none⟩ = some (.int .i64 a.prev) ∧ w4c.cell? ⟨W.heap.size, 2, none⟩ = some (.int .i64 a.term) ∧ w4c.cell? ⟨W.heap.size, 3, none⟩ = some (.slice a.X a.n a.c)) := hid ⟨(HB1.out.keep hk4 (by have := HB1.out.lt; omega)).at_ 0, (HB1.out.keep hk4 (by have := HB1.out.lt; omega)).at_ 1, (HB1.out.keep hk4 (by have := HB1.out.lt; omega)).at_ 2, (HB1.out.keep hk4 (by have := HB1.out.lt; omega)).at_ 3⟩
                 have hc0 : w4c.cell? ⟨W.heap.size, 0, none⟩ = some (.bool a.put) := (HB1.out.keep hk4 (by have := HB1.out.lt; omega)).at_ 0
                 have hc1 : w4c.cell? ⟨W.heap.size, 1, none⟩ = some (.int .i64 a.prev) := (HB1.out.keep hk4 (by have := HB1.out.lt; omega)).at_ 1
                 have hc2 : w4c.cell? ⟨W.heap.size, 2, none⟩ = some (.int .i64 a.term) := (HB1.out.keep hk4 (by have := HB1.out.lt; omega)).at_ 2
                 have hc3 : w4c.cell? ⟨W.heap.size, 3, none⟩ = some (.slice a.X a.n a.c) := (HB1.out.keep hk4 (by have := HB1.out.lt; omega)).at_ 3
                 have hle4 : w1.heap.size ≤ w4c.heap.size := hk4.size
                 clear ho4 hg4 hk4)
              | (refine E22.step2 rfl (.tmp 19) (.tmp 21) rfl (.slice A1 n d1) (some ⟨w1.heap.size, 0, none⟩) 1 1 rfl rfl w1.heap.size n _ (a.cells) _ _ rfl rfl HO4c.out rfl (hSc.out) (hOne.out) (by omega) (by unfold maxLen; omega) (by first | omega | (simp; omega)) ?_
                 intro A2 d2 w5 ho5 hg5 _
                 have hk5 := HK4c.out.grown hg5 (fun g e _ => HO4c.out.block g e)
                 have hS5 : Hid (w5.cell? ⟨W.heap.size, 0, none⟩ = some (.bool a.put) ∧ w5.cell? ⟨W.heap.size, 1, none⟩ = some (.int .i64 a.prev) ∧ w5.cell? ⟨W.heap.size, 2, none⟩ = some (.int .i64 a.term) ∧ w5.cell? ⟨W.heap.size, 3, none⟩ = some (.slice a.X a.n a.c)) := hid ⟨(HB1.out.keep hk5 (by have := HB1.out.lt; omega)).at_ 0, (HB1.out.keep hk5 (by have := HB1.out.lt; omega)).at_ 1, (HB1.out.keep hk5 (by have := HB1.out.lt; omega)).at_ 2, (HB1.out.keep hk5 (by have := HB1.out.lt; omega)).at_ 3⟩
                 have HO9 := hid ho5
                 have HK9 := hid hk5
                 have HS9 := hid (HSm.out _ _ _ ho5 hk5)
                 clear ho5 hg5 hk5)
              | (go_at_call 12; (with_reducible refine HS9.out.mono ?_); rintro e w5b ⟨rfl, hk6⟩
                 have HK5b := hid (HK9.out.then hk6)
                 have hS6 : Hid (w5b.cell? ⟨W.heap.size, 0, none⟩ = some (.bool a.put) ∧ w5b.cell? ⟨W.heap.size, 1, none⟩ = some (.int .i64 a.prev) ∧ w5b.cell? ⟨W.heap.size, 2, none⟩ = some (.int .i64 a.term) ∧ w5b.cell? ⟨W.heap.size, 3, none⟩ = some (.slice a.X a.n a.c)) := hid ⟨(HB1.out.keep HK5b.out (by have := HB1.out.lt; omega)).at_ 0, (HB1.out.keep HK5b.out (by have := HB1.out.lt; omega)).at_ 1, (HB1.out.keep HK5b.out (by have := HB1.out.lt; omega)).at_ 2, (HB1.out.keep HK5b.out (by have := HB1.out.lt; omega)).at_ 3⟩
                 have HS9b := hid (HS2.out w5b (HK1.out.then HK5b.out.own))
                 clear hk6 HS9)
              | (go_at_call 12; (with_reducible refine HS9b.out.mono ?_); rintro e w6 ⟨rfl, hk6⟩
                 have HK6 := hid (HK5b.out.then hk6)
                 have hS7 : Hid (w6.cell? ⟨W.heap.size, 0, none⟩ = some (.bool a.put) ∧ w6.cell? ⟨W.heap.size, 1, none⟩ = some (.int .i64 a.prev) ∧ w6.cell? ⟨W.heap.size, 2, none⟩ = some (.int .i64 a.term) ∧ w6.cell? ⟨W.heap.size, 3, none⟩ = some (.slice a.X a.n a.c)) := hid ⟨(HB1.out.keep HK6.out (by have := HB1.out.lt; omega)).at_ 0, (HB1.out.keep HK6.out (by have := HB1.out.lt; omega)).at_ 1, (HB1.out.keep HK6.out (by have := HB1.out.lt; omega)).at_ 2, (HB1.out.keep HK6.out (by have := HB1.out.lt; omega)).at_ 3⟩
                 clear hk6 HS9b))
          all_goals
            have HKs := hid (HK1.out.then HK6.out.own)
            have HB6 := hid (HB1.out.keep HK6.out (by have := HB1.out.lt; omega))
            have HPa := hid (HP.out _ HKs.out hT hL)
            go_wp2_with (first
              | (go_at_call 13; (with_reducible refine HPa.out.mono ?_); rintro e w7 ⟨lb, X4, n4, c4, rfl, hB4, hk4, hlb⟩
                 have hn4 := hid hB4.len
                 have HG7 := hid hB4.log
                 have HX7 := hid hB4.ls
                 have hk67 := hid hk4
                 have HB7 := hid (HB6.out.keep hk4 (fun f => f))
                 have HPb := hid (HP2.out _ (HKs.out.then hk4) hl2.out.2 hl2.out.1)
                 clear hB4 hk4 HPa)
              | (go_at_call 13; (with_reducible refine HPb.out.mono ?_); rintro e w8 ⟨lb2, X5, n5, c5, rfl, hB5, hk5, hlb2⟩
                 have hn5 := hid hB5.len
                 have HH8 := hid hB5.log
                 have hB8 := HB7.out.keep hk5 (fun f => f)
                 have b1 : w8.cell? ⟨W.heap.size, 1, none⟩ = some (.int .i64 a.prev) := hB8.at_ 1
                 have HB8 := hid hB8
                 have hk78 := hid hk5
                 have HG8 := hid (LogAt.same (HG7.out.wide (Av' := AvG w6.heap.size w7.heap.size w8.heap.size) (fun i hi hs => by
                   rcases hs with hs | hs
                   · exact hs
                   · omega)) hk5)
                 have HC := hid (rcommon_at w8.drew _ _ _ _ _ _ _ _ _ _ ((HX7.out.same hk5).same (Keep.refl _ w8).drew) (hB5.ls.same (Keep.refl _ w8).drew) (by have := hn4.out; omega) (by have := hn5.out; omega))
                 clear hB5 hk5 HPb hB8))
            go_region_held3 (fun V => V.cell? ⟨W.heap.size, 1, none⟩ = some (.int .i64 a.prev))
              (first | exact b1 | exact hS9.out | go_keep)
              (first
                | (go_at_call 15; (with_reducible refine HC.out.mono ?_); rintro e w9 ⟨rfl, hk9⟩
                   have hk89 := hid (((Keep.refl (fun _ => False) w8).drew).then hk9)
                   have hS9 : Hid (w9.cell? ⟨W.heap.size, 1, none⟩ = some (.int .i64 a.prev)) := hid ((HB8.out.keep hk89.out (fun f => f)).at_ 1)
                   clear hk9 HC))
            have hszs : w6.heap.size ≤ w7.heap.size ∧ w7.heap.size ≤ w8.heap.size ∧ w8.heap.size ≤ w9.heap.size := ⟨hk67.out.size, hk78.out.size, hk89.out.size⟩
            have hbs : W.heap.size < w6.heap.size := HB6.out.lt
            have HE9 := hid (((Ha.out.same HKs.out).old.same (hk67.out.then (hk78.out.then hk89.out))))
            have hB9 := HB8.out.keep hk89.out (fun f => f)
            have a1 : w9.cell? ⟨W.heap.size, 1, none⟩ = some (.int .i64 a.prev) := hB9.at_ 1
            have a2 : w9.cell? ⟨W.heap.size, 2, none⟩ = some (.int .i64 a.term) := hB9.at_ 2
            have a3 : w9.cell? ⟨W.heap.size, 3, none⟩ = some (.slice a.X a.n a.c) := hB9.at_ 3
            have HB9 := hid hB9
            have HA1 := hid (after_at w9 (AvG w6.heap.size w7.heap.size w8.heap.size) (fun i hi => by rcases hi with hi | hi <;> omega) lb q (HG8.out.same hk89.out) (by omega) a.es a.n a.c a.X (HE9.out.wide (fun i _ hs => by
              rcases Nat.lt_or_ge i w6.heap.size with h | h
              · exact absurd (.inl h) hs
              · exact h)) (by omega) a.prev a.term)
            rw [hok] at HA1
            have hp10 : Hid (∀ w10, Keep (fun i => ¬ AvG w6.heap.size w7.heap.size w8.heap.size i) w9 w10 → Same W w10) := hid (fun w10 hk => (HKs.out.then (hk67.out.then (hk78.out.then hk89.out))).trans hk (fun i hi hs => by have := HKs.out.size; exact hs (.inl (by omega))))
            clear hB9
            go_wp2_with (first
              | (go_at_call 16; (with_reducible refine HA1.out.mono ?_); rintro e w10 ⟨rfl, hg10, hk10⟩
                 have HG10 := hid hg10
                 have HK10 := hid (hp10.out w10 hk10)
                 have hB10 := HB9.out.keep hk10 (fun hs => hs (.inl hbs))
                 have d1 : w10.cell? ⟨W.heap.size, 1, none⟩ = some (.int .i64 a.prev) := hB10.at_ 1
                 have d2 : w10.cell? ⟨W.heap.size, 2, none⟩ = some (.int .i64 a.term) := hB10.at_ 2
                 have d3 : w10.cell? ⟨W.heap.size, 3, none⟩ = some (.slice a.X a.n a.c) := hB10.at_ 3
                 have HB10 := hid hB10
                 have hsz10 : w9.heap.size ≤ w10.heap.size := hk10.size
                 have HH10 := hid (show LogAt w10 (AvG w7.heap.size w8.heap.size w10.heap.size) lb2 q2 from ((HH8.out.wide (Av' := AvG w7.heap.size w8.heap.size w10.heap.size) (fun i hi hs => by
                   rcases hs with hs | hs
                   · exact hs
                   · omega)).same hk89.out).keep hk10 (fun i hi hs => by
                     unfold AvG at hs ⊢
                     omega))
                 have HE10 := hid ((HE9.out.wide (Av' := fun i => ¬ i < w6.heap.size) (fun i _ hs => by omega)).keep hk10 (fun i _ hs => fun h => hs (.inl h)))
                 have HA2 := hid (after_at w10 (AvG w7.heap.size w8.heap.size w10.heap.size) (fun i hi => by rcases hi with hi | hi <;> omega) lb2 q2 HH10.out (by omega) a.es a.n a.c a.X (HE10.out.wide (fun i _ hs => fun h => hs (.inl (by omega)))) (by omega) a.prev a.term)
                 rw [hok2] at HA2
                 clear hg10 hk10 hB10 HA1)
              | (go_at_call 16; (with_reducible refine HA2.out.mono ?_); rintro e w11 ⟨rfl, hg11, hk11⟩
                 have HH11 := hid hg11
                 have HG11 := hid (HG10.out.keep hk11 (fun i hi hs => by
                   unfold AvG at hs ⊢
                   omega))
                 have HK11 := hid (HK10.out.trans hk11 (fun i hi hs => by have := HKs.out.size; exact hs (.inl (by omega))))
                 have hB11 := HB10.out.keep hk11 (fun hs => hs (.inl (by omega)))
                 have f1 : w11.cell? ⟨W.heap.size, 1, none⟩ = some (.int .i64 a.prev) := hB11.at_ 1
                 have f3 : w11.cell? ⟨W.heap.size, 3, none⟩ = some (.slice a.X a.n a.c) := hB11.at_ 3
                 have HB11 := hid hB11
                 clear hg11 hk11 hB11 HA2))
            go_quiet (fail)
            go_wp2_with fail
            go_ret
            exact ⟨by simp, HK11.out.drewN _⟩
        | true =>
          have hok2 : putOk id q2 a.prev a.term (a.es.map En.pe) = true := by rw [← hmt.1]; exact hok
          have hge := hmt.2 hok
          have hpv0 : 0 ≤ a.prev := (putOk_parts hok).1
          rw [hel] at hge
          clear hmt hpv2
          go_enter Try.func4, Try.ntmps4
          go_wp2_with (first
            | (go_at_call 11; (with_reducible refine (wakes_any _).mono ?_); rintro e w1 ⟨rfl, hk1⟩
               have HK1 := hid (HK0.out.then hk1)
               have HB1 := hid (HB0.out.keep hk1 (fun f => f))
               clear hk1))
          have HSl := hid (HSl0.out.same HK1.out)
          have c0 : w1.cell? ⟨W.heap.size, 0, none⟩ = some (.bool a.put) := HB1.out.at_ 0
          have c1 : w1.cell? ⟨W.heap.size, 1, none⟩ = some (.int .i64 a.prev) := HB1.out.at_ 1
          have c2 : w1.cell? ⟨W.heap.size, 2, none⟩ = some (.int .i64 a.term) := HB1.out.at_ 2
          have c3 : w1.cell? ⟨W.heap.size, 3, none⟩ = some (.slice a.X a.n a.c) := HB1.out.at_ 3
          have hlt : W.heap.size < w1.heap.size := HB1.out.lt
          have HSm := hid (fun w5 A2 d2 (ho : Own w5 w1.heap.size 33 4 (.slice A2 (n + 1) d2) (n + 1) (actFlat l ++ a.cells)) (hk : Keep (fun i => w1.heap.size ≤ i) w1 w5) => HS.out w5 A2 d2 (ho.rebase (fun _ _ => Nat.zero_le _)) (HK1.out.then hk.own))
          rw [hsm] at HSm
          rw [hsm2] at HS2
          have hS0 : Hid (w1.drew.cell? ⟨W.heap.size, 0, none⟩ = some (.bool a.put) ∧ w1.drew.cell? ⟨W.heap.size, 1, none⟩ = some (.int .i64 a.prev) ∧ w1.drew.cell? ⟨W.heap.size, 2, none⟩ = some (.int .i64 a.term) ∧ w1.drew.cell? ⟨W.heap.size, 3, none⟩ = some (.slice a.X a.n a.c)) := hid ⟨HB1.out.at_ 0, HB1.out.at_ 1, HB1.out.at_ 2, HB1.out.at_ 3⟩
          have hOa := hid (World.ownsRow_made (base := w1.heap.size) (e := 33) (size := 4) w1 #[] 0 (Nat.le_refl _) (by simp [maxLen]) rfl)
          have hOb := hid (World.ownsRow.alloc hOa.out (.cells #[.bool a.put, .int .i64 a.prev, .int .i64 a.term, .slice a.X a.n a.c] 33))
          have hOc := hid (World.ownsRow_made (base := w1.heap.size) (e := 33) (size := 4) (w1.alloc (.cells #[.bool a.put, .int .i64 a.prev, .int .i64 a.term, .slice a.X a.n a.c] 33)) #[] 0 (by simp) (by simp [maxLen]) rfl)
          rw [World.size_alloc] at hOc
          have hBb := (Blk.made (w1.alloc (.cells #[] 33)) 33 #[.bool a.put, .int .i64 a.prev, .int .i64 a.term, .slice a.X a.n a.c])
          rw [World.size_alloc] at hBb
          have HBb := hid hBb
          have HBc := hid ((Blk.made w1 33 #[.bool a.put, .int .i64 a.prev, .int .i64 a.term, .slice a.X a.n a.c]).alloc (.cells #[] 33))
          have HKa := hid (((Keep.refl (fun _ => False) w1).alloc (.cells #[] 33)).drew)
          have HKb := hid ((((Keep.refl (fun _ => False) w1).alloc (.cells #[] 33)).alloc (.cells #[.bool a.put, .int .i64 a.prev, .int .i64 a.term, .slice a.X a.n a.c] 33)).drew)
          have HKc := hid ((((Keep.refl (fun _ => False) w1).alloc (.cells #[.bool a.put, .int .i64 a.prev, .int .i64 a.term, .slice a.X a.n a.c] 33)).alloc (.cells #[] 33)).drew)
          have hOne : Hid (∀ u ∈ a.cells, u.oneCell' = true) := hid (by intro u hu; exact actFlat_one [a] u (by simpa [actFlat] using hu))
          clear hBb
          go_region_held3 (fun w' => w'.cell? ⟨W.heap.size, 0, none⟩ = some (.bool a.put) ∧ w'.cell? ⟨W.heap.size, 1, none⟩ = some (.int .i64 a.prev) ∧ w'.cell? ⟨W.heap.size, 2, none⟩ = some (.int .i64 a.term) ∧ w'.cell? ⟨W.heap.size, 3, none⟩ = some (.slice a.X a.n a.c))
            (first | exact hS0.out | exact hS4.out | exact hS5.out | exact hS6.out | exact hS7.out | go_keep)
            (first
              | (refine E22.step2 rfl (.tmp 17) (.tmp 18) rfl (.slice (some ⟨w1.heap.size, 0, none⟩) 0 0) X n c rfl rfl w1.heap.size 0 [] (actFlat l) n _ (Nat.zero_add _) (List.nil_append _) hOa.out hfl (HSl.out.src (HKa.out)) (actFlat_one l) (by omega) (by unfold maxLen; omega) (by first | omega | (simp; done) | (simp; omega)) ?_
                 intro A1 d1 w4 ho4 hg4 _
                 have HO4 := hid ho4
                 have hk4 : Keep (fun i => w1.heap.size ≤ i) w1 w4 := (HKa.out.wide (fun _ _ f => f.elim)).grown hg4 (fun g e hl => by simp [Value.ownBlock] at e; omega)
                 have HK4 := hid hk4
                 have hSa : Hid (0 < 1 → ∃ ad, (some ⟨w4.heap.size, 0, none⟩ : Option Addr) = some ad ∧ ∀ j u, (a.cells)[j]? = some u → (w4.alloc (.cells #[.bool a.put, .int .i64 a.prev, .int .i64 a.term, .slice a.X a.n a.c] 33)).cell? (ad.add j) = some u) := hid (fun _ => ⟨_, rfl, src_new (w := w4) rfl⟩)
                 have hS4 : Hid (w4.cell? ⟨W.heap.size, 0, none⟩ = some (.bool a.put) ∧ w4.cell? ⟨W.heap.size, 1, none⟩ = some (.int .i64 a.prev) ∧ w4.cell? ⟨W.heap.size, 2, none⟩ = some (.int .i64 a.term) ∧ w4.cell? ⟨W.heap.size, 3, none⟩ = some (.slice a.X a.n a.c)) := hid ⟨(HB1.out.keep hk4 (by have := HB1.out.lt; omega)).at_ 0, (HB1.out.keep hk4 (by have := HB1.out.lt; omega)).at_ 1, (HB1.out.keep hk4 (by have := HB1.out.lt; omega)).at_ 2, (HB1.out.keep hk4 (by have := HB1.out.lt; omega)).at_ 3⟩
                 have hc0 : w4.cell? ⟨W.heap.size, 0, none⟩ = some (.bool a.put) := (HB1.out.keep hk4 (by have := HB1.out.lt; omega)).at_ 0
                 have hc1 : w4.cell? ⟨W.heap.size, 1, none⟩ = some (.int .i64 a.prev) := (HB1.out.keep hk4 (by have := HB1.out.lt; omega)).at_ 1
                 have hc2 : w4.cell? ⟨W.heap.size, 2, none⟩ = some (.int .i64 a.term) := (HB1.out.keep hk4 (by have := HB1.out.lt; omega)).at_ 2
                 have hc3 : w4.cell? ⟨W.heap.size, 3, none⟩ = some (.slice a.X a.n a.c) := (HB1.out.keep hk4 (by have := HB1.out.lt; omega)).at_ 3
                 have hle4 : w1.heap.size ≤ w4.heap.size := hk4.size
                 clear ho4 hg4 hk4)
              | (refine E22.step2 rfl (.tmp 19) (.tmp 21) rfl (.slice A1 n d1) (some ⟨w4.heap.size, 0, none⟩) 1 1 rfl rfl w1.heap.size n _ (a.cells) _ _ rfl rfl (World.ownsRow.alloc HO4.out (.cells #[.bool a.put, .int .i64 a.prev, .int .i64 a.term, .slice a.X a.n a.c] 33)) rfl (hSa.out) (hOne.out) (by omega) (by unfold maxLen; omega) (by first | omega | (simp; omega)) ?_
                 intro A2 d2 w5 ho5 hg5 _
                 have hk5 := (HK4.out.alloc (.cells #[.bool a.put, .int .i64 a.prev, .int .i64 a.term, .slice a.X a.n a.c] 33)).grown hg5 (fun g e _ => HO4.out.block g e)
                 have hS5 : Hid (w5.cell? ⟨W.heap.size, 0, none⟩ = some (.bool a.put) ∧ w5.cell? ⟨W.heap.size, 1, none⟩ = some (.int .i64 a.prev) ∧ w5.cell? ⟨W.heap.size, 2, none⟩ = some (.int .i64 a.term) ∧ w5.cell? ⟨W.heap.size, 3, none⟩ = some (.slice a.X a.n a.c)) := hid ⟨(HB1.out.keep hk5 (by have := HB1.out.lt; omega)).at_ 0, (HB1.out.keep hk5 (by have := HB1.out.lt; omega)).at_ 1, (HB1.out.keep hk5 (by have := HB1.out.lt; omega)).at_ 2, (HB1.out.keep hk5 (by have := HB1.out.lt; omega)).at_ 3⟩
                 have HO9 := hid ho5
                 have HK9 := hid hk5
                 have HS9 := hid (HSm.out _ _ _ ho5 hk5)
                 clear ho5 hg5 hk5)
              | (refine E22.step2 rfl (.tmp 17) (.tmp 18) rfl (.slice (some ⟨w1.heap.size, 0, none⟩) 0 0) X n c rfl rfl w1.heap.size 0 [] (actFlat l) n _ (Nat.zero_add _) (List.nil_append _) hOb.out hfl (HSl.out.src (HKb.out)) (actFlat_one l) (by omega) (by unfold maxLen; omega) (by first | omega | (simp; done) | (simp; omega)) ?_
                 intro A1 d1 w4b ho4 hg4 _
                 have HO4b := hid ho4
                 have hk4 : Keep (fun i => w1.heap.size ≤ i) w1 w4b := (HKb.out.wide (fun _ _ f => f.elim)).grown hg4 (fun g e hl => by simp [Value.ownBlock] at e; omega)
                 have HK4b := hid hk4
                 have hB4 := hid (HBb.out.keep (((Keep.refl (· = w1.heap.size) ((w1.alloc (.cells #[] 33)).alloc (.cells #[.bool a.put, .int .i64 a.prev, .int .i64 a.term, .slice a.X a.n a.c] 33)))).drew.grown hg4 (fun g e _ => by simp [Value.ownBlock] at e; omega)) (by omega))
                 have hSb : Hid (0 < 1 → ∃ ad, (some ⟨w1.heap.size + 1, 0, none⟩ : Option Addr) = some ad ∧ ∀ j u, (a.cells)[j]? = some u → w4b.cell? (ad.add j) = some u) := hid (fun _ => ⟨_, rfl, src_blk hB4.out⟩)
                 clear hB4
                 have hS4 : Hid (w4b.cell? ⟨W.heap.size, 0, none⟩ = some (.bool a.put) ∧ w4b.cell? ⟨W.heap.size, 1, none⟩ = some (.int .i64 a.prev) ∧ w4b.cell? ⟨W.heap.size, 2, none⟩ = some (.int .i64 a.term) ∧ w4b.cell? ⟨W.heap.size, 3, none⟩ = some (.slice a.X a.n a.c)) := hid ⟨(HB1.out.keep hk4 (by have := HB1.out.lt; omega)).at_ 0, (HB1.out.keep hk4 (by have := HB1.out.lt; omega)).at_ 1, (HB1.out.keep hk4 (by have := HB1.out.lt; omega)).at_ 2, (HB1.out.keep hk4 (by have := HB1.out.lt; omega)).at_ 3⟩
                 have hc0 : w4b.cell? ⟨W.heap.size, 0, none⟩ = some (.bool a.put) := (HB1.out.keep hk4 (by have := HB1.out.lt; omega)).at_ 0
                 have hc1 : w4b.cell? ⟨W.heap.size, 1, none⟩ = some (.int .i64 a.prev) := (HB1.out.keep hk4 (by have := HB1.out.lt; omega)).at_ 1
                 have hc2 : w4b.cell? ⟨W.heap.size, 2, none⟩ = some (.int .i64 a.term) := (HB1.out.keep hk4 (by have := HB1.out.lt; omega)).at_ 2
                 have hc3 : w4b.cell? ⟨W.heap.size, 3, none⟩ = some (.slice a.X a.n a.c) := (HB1.out.keep hk4 (by have := HB1.out.lt; omega)).at_ 3
                 have hle4 : w1.heap.size ≤ w4b.heap.size := hk4.size
                 clear ho4 hg4 hk4)
              | (refine E22.step2 rfl (.tmp 19) (.tmp 21) rfl (.slice A1 n d1) (some ⟨w1.heap.size + 1, 0, none⟩) 1 1 rfl rfl w1.heap.size n _ (a.cells) _ _ rfl rfl HO4b.out rfl (hSb.out) (hOne.out) (by omega) (by unfold maxLen; omega) (by first | omega | (simp; omega)) ?_
                 intro A2 d2 w5 ho5 hg5 _
                 have hk5 := HK4b.out.grown hg5 (fun g e _ => HO4b.out.block g e)
                 have hS5 : Hid (w5.cell? ⟨W.heap.size, 0, none⟩ = some (.bool a.put) ∧ w5.cell? ⟨W.heap.size, 1, none⟩ = some (.int .i64 a.prev) ∧ w5.cell? ⟨W.heap.size, 2, none⟩ = some (.int .i64 a.term) ∧ w5.cell? ⟨W.heap.size, 3, none⟩ = some (.slice a.X a.n a.c)) := hid ⟨(HB1.out.keep hk5 (by have := HB1.out.lt; omega)).at_ 0, (HB1.out.keep hk5 (by have := HB1.out.lt; omega)).at_ 1, (HB1.out.keep hk5 (by have := HB1.out.lt; omega)).at_ 2, (HB1.out.keep hk5 (by have := HB1.out.lt; omega)).at_ 3⟩
                 have HO9 := hid ho5
                 have HK9 := hid hk5
                 have HS9 := hid (HSm.out _ _ _ ho5 hk5)
                 clear ho5 hg5 hk5)
              | (refine E22.step2 rfl (.tmp 17) (.tmp 18) rfl (.slice (some ⟨w1.heap.size + 1, 0, none⟩) 0 0) X n c rfl rfl w1.heap.size 0 [] (actFlat l) n _ (Nat.zero_add _) (List.nil_append _) hOc.out hfl (HSl.out.src (HKc.out)) (actFlat_one l) (by omega) (by unfold maxLen; omega) (by first | omega | (simp; done) | (simp; omega)) ?_
                 intro A1 d1 w4c ho4 hg4 _
                 have HO4c := hid ho4
                 have hk4 : Keep (fun i => w1.heap.size ≤ i) w1 w4c := (HKc.out.wide (fun _ _ f => f.elim)).grown hg4 (fun g e hl => by simp [Value.ownBlock] at e; omega)
                 have HK4c := hid hk4
                 have hB4 := hid (HBc.out.keep (((Keep.refl (· = w1.heap.size + 1) ((w1.alloc (.cells #[.bool a.put, .int .i64 a.prev, .int .i64 a.term, .slice a.X a.n a.c] 33)).alloc (.cells #[] 33)))).drew.grown hg4 (fun g e _ => by simp [Value.ownBlock] at e; omega)) (by omega))
                 have hSc : Hid (0 < 1 → ∃ ad, (some ⟨w1.heap.size, 0, none⟩ : Option Addr) = some ad ∧ ∀ j u, (a.cells)[j]? = some u → w4c.cell? (ad.add j) = some u) := hid (fun _ => ⟨_, rfl, src_blk hB4.out⟩)
                 clear hB4
                 have hS4 : Hid (w4c.cell? ⟨W.heap.size, 0, none⟩ = some (.bool a.put) ∧ w4c.cell? ⟨W.heap.size, 1, none⟩ = some (.int .i64 a.prev) ∧ w4c.cell? ⟨W.heap.size, 2, none⟩ = some (.int .i64 a.term) ∧ w4c.cell? ⟨W.heap.size, 3, none⟩ = some (.slice a.X a.n a.c)) := hid ⟨(HB1.out.keep hk4 (by have := HB1.out.lt; omega)).at_ 0, (HB1.out.keep hk4 (by have := HB1.out.lt; omega)).at_ 1, (HB1.out.keep hk4 (by have := HB1.out.lt; omega)).at_ 2, (HB1.out.keep hk4 (by have := HB1.out.lt; omega)).at_ 3⟩
                 have hc0 : w4c.cell? ⟨W.heap.size, 0, none⟩ = some (.bool a.put) := (HB1.out.keep hk4 (by have := HB1.out.lt; omega)).at_ 0
                 have hc1 : w4c.cell? ⟨W.heap.size, 1, none⟩ = some (.int .i64 a.prev) := (HB1.out.keep hk4 (by have := HB1.out.lt; omega)).at_ 1
                 have hc2 : w4c.cell? ⟨W.heap.size, 2, none⟩ = some (.int .i64 a.term) := (HB1.out.keep hk4 (by have := HB1.out.lt; omega)).at_ 2
                 have hc3 : w4c.cell? ⟨W.heap.size, 3, none⟩ = some (.slice a.X a.n a.c) := (HB1.out.keep hk4 (by have := HB1.out.lt; omega)).at_ 3
                 have hle4 : w1.heap.size ≤ w4c.heap.size := hk4.size
                 clear ho4 hg4 hk4)
              | (refine E22.step2 rfl (.tmp 19) (.tmp 21) rfl (.slice A1 n d1) (some ⟨w1.heap.size, 0, none⟩) 1 1 rfl rfl w1.heap.size n _ (a.cells) _ _ rfl rfl HO4c.out rfl (hSc.out) (hOne.out) (by omega) (by unfold maxLen; omega) (by first | omega | (simp; omega)) ?_
                 intro A2 d2 w5 ho5 hg5 _
                 have hk5 := HK4c.out.grown hg5 (fun g e _ => HO4c.out.block g e)
                 have hS5 : Hid (w5.cell? ⟨W.heap.size, 0, none⟩ = some (.bool a.put) ∧ w5.cell? ⟨W.heap.size, 1, none⟩ = some (.int .i64 a.prev) ∧ w5.cell? ⟨W.heap.size, 2, none⟩ = some (.int .i64 a.term) ∧ w5.cell? ⟨W.heap.size, 3, none⟩ = some (.slice a.X a.n a.c)) := hid ⟨(HB1.out.keep hk5 (by have := HB1.out.lt; omega)).at_ 0, (HB1.out.keep hk5 (by have := HB1.out.lt; omega)).at_ 1, (HB1.out.keep hk5 (by have := HB1.out.lt; omega)).at_ 2, (HB1.out.keep hk5 (by have := HB1.out.lt; omega)).at_ 3⟩
                 have HO9 := hid ho5
                 have HK9 := hid hk5
                 have HS9 := hid (HSm.out _ _ _ ho5 hk5)
                 clear ho5 hg5 hk5)
              | (go_at_call 12; (with_reducible refine HS9.out.mono ?_); rintro e w5b ⟨rfl, hk6⟩
                 have HK5b := hid (HK9.out.then hk6)
                 have hS6 : Hid (w5b.cell? ⟨W.heap.size, 0, none⟩ = some (.bool a.put) ∧ w5b.cell? ⟨W.heap.size, 1, none⟩ = some (.int .i64 a.prev) ∧ w5b.cell? ⟨W.heap.size, 2, none⟩ = some (.int .i64 a.term) ∧ w5b.cell? ⟨W.heap.size, 3, none⟩ = some (.slice a.X a.n a.c)) := hid ⟨(HB1.out.keep HK5b.out (by have := HB1.out.lt; omega)).at_ 0, (HB1.out.keep HK5b.out (by have := HB1.out.lt; omega)).at_ 1, (HB1.out.keep HK5b.out (by have := HB1.out.lt; omega)).at_ 2, (HB1.out.keep HK5b.out (by have := HB1.out.lt; omega)).at_ 3⟩
                 have HS9b := hid (HS2.out w5b (HK1.out.then HK5b.out.own))
                 clear hk6 HS9)
              | (go_at_call 12; (with_reducible refine HS9b.out.mono ?_); rintro e w6 ⟨rfl, hk6⟩
                 have HK6 := hid (HK5b.out.then hk6)
                 have hS7 : Hid (w6.cell? ⟨W.heap.size, 0, none⟩ = some (.bool a.put) ∧ w6.cell? ⟨W.heap.size, 1, none⟩ = some (.int .i64 a.prev) ∧ w6.cell? ⟨W.heap.size, 2, none⟩ = some (.int .i64 a.term) ∧ w6.cell? ⟨W.heap.size, 3, none⟩ = some (.slice a.X a.n a.c)) := hid ⟨(HB1.out.keep HK6.out (by have := HB1.out.lt; omega)).at_ 0, (HB1.out.keep HK6.out (by have := HB1.out.lt; omega)).at_ 1, (HB1.out.keep HK6.out (by have := HB1.out.lt; omega)).at_ 2, (HB1.out.keep HK6.out (by have := HB1.out.lt; omega)).at_ 3⟩
                 clear hk6 HS9b))
          all_goals
            have HKs := hid (HK1.out.then HK6.out.own)
            have HB6 := hid (HB1.out.keep HK6.out (by have := HB1.out.lt; omega))
            have HPa := hid (HP.out _ HKs.out hT hL)
            go_wp2_with (first
              | (go_at_call 13; (with_reducible refine HPa.out.mono ?_); rintro e w7 ⟨lb, X4, n4, c4, rfl, hB4, hk4, hlb⟩
                 have hn4 := hid hB4.len
                 have HG7 := hid hB4.log
                 have HX7 := hid hB4.ls
                 have hk67 := hid hk4
                 have HB7 := hid (HB6.out.keep hk4 (fun f => f))
                 have HPb := hid (HP2.out _ (HKs.out.then hk4) hl2.out.2 hl2.out.1)
                 clear hB4 hk4 HPa)
              | (go_at_call 13; (with_reducible refine HPb.out.mono ?_); rintro e w8 ⟨lb2, X5, n5, c5, rfl, hB5, hk5, hlb2⟩
                 have hn5 := hid hB5.len
                 have HH8 := hid hB5.log
                 have hB8 := HB7.out.keep hk5 (fun f => f)
                 have b1 : w8.cell? ⟨W.heap.size, 1, none⟩ = some (.int .i64 a.prev) := hB8.at_ 1
                 have HB8 := hid hB8
                 have hk78 := hid hk5
                 have HG8 := hid (LogAt.same (HG7.out.wide (Av' := AvG w6.heap.size w7.heap.size w8.heap.size) (fun i hi hs => by
                   rcases hs with hs | hs
                   · exact hs
                   · omega)) hk5)
                 have HC := hid (rcommon_at w8.drew _ _ _ _ _ _ _ _ _ _ ((HX7.out.same hk5).same (Keep.refl _ w8).drew) (hB5.ls.same (Keep.refl _ w8).drew) (by have := hn4.out; omega) (by have := hn5.out; omega))
                 clear hB5 hk5 HPb hB8))
            go_region_held3 (fun V => V.cell? ⟨W.heap.size, 1, none⟩ = some (.int .i64 a.prev))
              (first | exact b1 | exact hS9.out | go_keep)
              (first
                | (go_at_call 15; (with_reducible refine HC.out.mono ?_); rintro e w9 ⟨rfl, hk9⟩
                   have hk89 := hid (((Keep.refl (fun _ => False) w8).drew).then hk9)
                   have hS9 : Hid (w9.cell? ⟨W.heap.size, 1, none⟩ = some (.int .i64 a.prev)) := hid ((HB8.out.keep hk89.out (fun f => f)).at_ 1)
                   clear hk9 HC))
            have hszs : w6.heap.size ≤ w7.heap.size ∧ w7.heap.size ≤ w8.heap.size ∧ w8.heap.size ≤ w9.heap.size := ⟨hk67.out.size, hk78.out.size, hk89.out.size⟩
            have hbs : W.heap.size < w6.heap.size := HB6.out.lt
            have HE9 := hid (((Ha.out.same HKs.out).old.same (hk67.out.then (hk78.out.then hk89.out))))
            have hB9 := HB8.out.keep hk89.out (fun f => f)
            have a1 : w9.cell? ⟨W.heap.size, 1, none⟩ = some (.int .i64 a.prev) := hB9.at_ 1
            have a2 : w9.cell? ⟨W.heap.size, 2, none⟩ = some (.int .i64 a.term) := hB9.at_ 2
            have a3 : w9.cell? ⟨W.heap.size, 3, none⟩ = some (.slice a.X a.n a.c) := hB9.at_ 3
            have HB9 := hid hB9
            have HA1 := hid (after_at w9 (AvG w6.heap.size w7.heap.size w8.heap.size) (fun i hi => by rcases hi with hi | hi <;> omega) lb q (HG8.out.same hk89.out) (by omega) a.es a.n a.c a.X (HE9.out.wide (fun i _ hs => by
              rcases Nat.lt_or_ge i w6.heap.size with h | h
              · exact absurd (.inl h) hs
              · exact h)) (by omega) a.prev a.term)
            rw [hok] at HA1
            have hp10 : Hid (∀ w10, Keep (fun i => ¬ AvG w6.heap.size w7.heap.size w8.heap.size i) w9 w10 → Same W w10) := hid (fun w10 hk => (HKs.out.then (hk67.out.then (hk78.out.then hk89.out))).trans hk (fun i hi hs => by have := HKs.out.size; exact hs (.inl (by omega))))
            clear hB9
            go_wp2_with (first
              | (go_at_call 16; (with_reducible refine HA1.out.mono ?_); rintro e w10 ⟨rfl, hg10, hk10⟩
                 have HG10 := hid hg10
                 have HK10 := hid (hp10.out w10 hk10)
                 have hB10 := HB9.out.keep hk10 (fun hs => hs (.inl hbs))
                 have d1 : w10.cell? ⟨W.heap.size, 1, none⟩ = some (.int .i64 a.prev) := hB10.at_ 1
                 have d2 : w10.cell? ⟨W.heap.size, 2, none⟩ = some (.int .i64 a.term) := hB10.at_ 2
                 have d3 : w10.cell? ⟨W.heap.size, 3, none⟩ = some (.slice a.X a.n a.c) := hB10.at_ 3
                 have HB10 := hid hB10
                 have hsz10 : w9.heap.size ≤ w10.heap.size := hk10.size
                 have HH10 := hid (show LogAt w10 (AvG w7.heap.size w8.heap.size w10.heap.size) lb2 q2 from ((HH8.out.wide (Av' := AvG w7.heap.size w8.heap.size w10.heap.size) (fun i hi hs => by
                   rcases hs with hs | hs
                   · exact hs
                   · omega)).same hk89.out).keep hk10 (fun i hi hs => by
                     unfold AvG at hs ⊢
                     omega))
                 have HE10 := hid ((HE9.out.wide (Av' := fun i => ¬ i < w6.heap.size) (fun i _ hs => by omega)).keep hk10 (fun i _ hs => fun h => hs (.inl h)))
                 have HA2 := hid (after_at w10 (AvG w7.heap.size w8.heap.size w10.heap.size) (fun i hi => by rcases hi with hi | hi <;> omega) lb2 q2 HH10.out (by omega) a.es a.n a.c a.X (HE10.out.wide (fun i _ hs => fun h => hs (.inl (by omega)))) (by omega) a.prev a.term)
                 rw [hok2] at HA2
                 clear hg10 hk10 hB10 HA1)
              | (go_at_call 16; (with_reducible refine HA2.out.mono ?_); rintro e w11 ⟨rfl, hg11, hk11⟩
                 have HH11 := hid hg11
                 have HG11 := hid (HG10.out.keep hk11 (fun i hi hs => by
                   unfold AvG at hs ⊢
                   omega))
                 have HK11 := hid (HK10.out.trans hk11 (fun i hi hs => by have := HKs.out.size; exact hs (.inl (by omega))))
                 have hB11 := HB10.out.keep hk11 (fun hs => hs (.inl (by omega)))
                 have f1 : w11.cell? ⟨W.heap.size, 1, none⟩ = some (.int .i64 a.prev) := hB11.at_ 1
                 have f3 : w11.cell? ⟨W.heap.size, 3, none⟩ = some (.slice a.X a.n a.c) := hB11.at_ 3
                 have HB11 := hid hB11
                 clear hg11 hk11 hB11 HA2))
            have HCm := hid (common_at w11.drew _ _ _ _ _ _ (HG11.out.same (Keep.refl _ w11).drew) (HH11.out.same (Keep.refl _ w11).drew) (by omega) (by omega))
            have hw : IntKind.i64.wrap (a.prev + (a.n : Int)) = a.prev + (a.n : Int) := IntWalk.i64_in _ ⟨by omega, by omega⟩
            go_region_held3 (fun V => V.cell? ⟨W.heap.size, 1, none⟩ = some (.int .i64 a.prev) ∧ V.cell? ⟨W.heap.size, 3, none⟩ = some (.slice a.X a.n a.c))
              (first | exact ⟨f1, f3⟩ | exact hS12.out | go_keep)
              (first
                | (go_at_call 14; (with_reducible refine HCm.out.mono ?_); rintro e w12 ⟨rfl, hk12⟩
                   have hk1112 := hid (((Keep.refl (fun _ => False) w11).drew).then hk12)
                   have hS12 : Hid (w12.cell? ⟨W.heap.size, 1, none⟩ = some (.int .i64 a.prev) ∧ w12.cell? ⟨W.heap.size, 3, none⟩ = some (.slice a.X a.n a.c)) := hid ⟨(HB11.out.keep hk1112.out (fun f => f)).at_ 1, (HB11.out.keep hk1112.out (fun f => f)).at_ 3⟩
                   clear hk12 HCm))
            go_wp2_with fail
            go_ret
            exact ⟨by first | (simp; done) | (simp; omega), HK11.out.then hk1112.out⟩
    · have hsm2' : smallA l2 = false := by simpa using hsm2
      go_enter Try.func4, Try.ntmps4
      go_wp2_with (first
        | (go_at_call 11; (with_reducible refine (wakes_any _).mono ?_); rintro e w1 ⟨rfl, hk1⟩
           have HK1 := hid (HK0.out.then hk1)
           have HB1 := hid (HB0.out.keep hk1 (fun f => f))
           clear hk1))
      have HSl := hid (HSl0.out.same HK1.out)
      have c0 : w1.cell? ⟨W.heap.size, 0, none⟩ = some (.bool a.put) := HB1.out.at_ 0
      have c1 : w1.cell? ⟨W.heap.size, 1, none⟩ = some (.int .i64 a.prev) := HB1.out.at_ 1
      have c2 : w1.cell? ⟨W.heap.size, 2, none⟩ = some (.int .i64 a.term) := HB1.out.at_ 2
      have c3 : w1.cell? ⟨W.heap.size, 3, none⟩ = some (.slice a.X a.n a.c) := HB1.out.at_ 3
      have hlt : W.heap.size < w1.heap.size := HB1.out.lt
      have HSm := hid (fun w5 A2 d2 (ho : Own w5 w1.heap.size 33 4 (.slice A2 (n + 1) d2) (n + 1) (actFlat l ++ a.cells)) (hk : Keep (fun i => w1.heap.size ≤ i) w1 w5) => HS.out w5 A2 d2 (ho.rebase (fun _ _ => Nat.zero_le _)) (HK1.out.then hk.own))
      rw [hsm] at HSm
      rw [hsm2'] at HS2
      have hS0 : Hid (w1.drew.cell? ⟨W.heap.size, 0, none⟩ = some (.bool a.put) ∧ w1.drew.cell? ⟨W.heap.size, 1, none⟩ = some (.int .i64 a.prev) ∧ w1.drew.cell? ⟨W.heap.size, 2, none⟩ = some (.int .i64 a.term) ∧ w1.drew.cell? ⟨W.heap.size, 3, none⟩ = some (.slice a.X a.n a.c)) := hid ⟨HB1.out.at_ 0, HB1.out.at_ 1, HB1.out.at_ 2, HB1.out.at_ 3⟩
      have hOa := hid (World.ownsRow_made (base := w1.heap.size) (e := 33) (size := 4) w1 #[] 0 (Nat.le_refl _) (by simp [maxLen]) rfl)
      have hOb := hid (World.ownsRow.alloc hOa.out (.cells #[.bool a.put, .int .i64 a.prev, .int .i64 a.term, .slice a.X a.n a.c] 33))
      have hOc := hid (World.ownsRow_made (base := w1.heap.size) (e := 33) (size := 4) (w1.alloc (.cells #[.bool a.put, .int .i64 a.prev, .int .i64 a.term, .slice a.X a.n a.c] 33)) #[] 0 (by simp) (by simp [maxLen]) rfl)
      rw [World.size_alloc] at hOc
      have hBb := (Blk.made (w1.alloc (.cells #[] 33)) 33 #[.bool a.put, .int .i64 a.prev, .int .i64 a.term, .slice a.X a.n a.c])
      rw [World.size_alloc] at hBb
      have HBb := hid hBb
      have HBc := hid ((Blk.made w1 33 #[.bool a.put, .int .i64 a.prev, .int .i64 a.term, .slice a.X a.n a.c]).alloc (.cells #[] 33))
      have HKa := hid (((Keep.refl (fun _ => False) w1).alloc (.cells #[] 33)).drew)
      have HKb := hid ((((Keep.refl (fun _ => False) w1).alloc (.cells #[] 33)).alloc (.cells #[.bool a.put, .int .i64 a.prev, .int .i64 a.term, .slice a.X a.n a.c] 33)).drew)
      have HKc := hid ((((Keep.refl (fun _ => False) w1).alloc (.cells #[.bool a.put, .int .i64 a.prev, .int .i64 a.term, .slice a.X a.n a.c] 33)).alloc (.cells #[] 33)).drew)
      have hOne : Hid (∀ u ∈ a.cells, u.oneCell' = true) := hid (by intro u hu; exact actFlat_one [a] u (by simpa [actFlat] using hu))
      clear hBb
      go_region_held3 (fun w' => w'.cell? ⟨W.heap.size, 0, none⟩ = some (.bool a.put) ∧ w'.cell? ⟨W.heap.size, 1, none⟩ = some (.int .i64 a.prev) ∧ w'.cell? ⟨W.heap.size, 2, none⟩ = some (.int .i64 a.term) ∧ w'.cell? ⟨W.heap.size, 3, none⟩ = some (.slice a.X a.n a.c))
        (first | exact hS0.out | exact hS4.out | exact hS5.out | exact hS6.out | exact hS7.out | go_keep)
        (first
          | (refine E22.step2 rfl (.tmp 17) (.tmp 18) rfl (.slice (some ⟨w1.heap.size, 0, none⟩) 0 0) X n c rfl rfl w1.heap.size 0 [] (actFlat l) n _ (Nat.zero_add _) (List.nil_append _) hOa.out hfl (HSl.out.src (HKa.out)) (actFlat_one l) (by omega) (by unfold maxLen; omega) (by first | omega | (simp; done) | (simp; omega)) ?_
             intro A1 d1 w4 ho4 hg4 _
             have HO4 := hid ho4
             have hk4 : Keep (fun i => w1.heap.size ≤ i) w1 w4 := (HKa.out.wide (fun _ _ f => f.elim)).grown hg4 (fun g e hl => by simp [Value.ownBlock] at e; omega)
             have HK4 := hid hk4
             have hSa : Hid (0 < 1 → ∃ ad, (some ⟨w4.heap.size, 0, none⟩ : Option Addr) = some ad ∧ ∀ j u, (a.cells)[j]? = some u → (w4.alloc (.cells #[.bool a.put, .int .i64 a.prev, .int .i64 a.term, .slice a.X a.n a.c] 33)).cell? (ad.add j) = some u) := hid (fun _ => ⟨_, rfl, src_new (w := w4) rfl⟩)
             have hS4 : Hid (w4.cell? ⟨W.heap.size, 0, none⟩ = some (.bool a.put) ∧ w4.cell? ⟨W.heap.size, 1, none⟩ = some (.int .i64 a.prev) ∧ w4.cell? ⟨W.heap.size, 2, none⟩ = some (.int .i64 a.term) ∧ w4.cell? ⟨W.heap.size, 3, none⟩ = some (.slice a.X a.n a.c)) := hid ⟨(HB1.out.keep hk4 (by have := HB1.out.lt; omega)).at_ 0, (HB1.out.keep hk4 (by have := HB1.out.lt; omega)).at_ 1, (HB1.out.keep hk4 (by have := HB1.out.lt; omega)).at_ 2, (HB1.out.keep hk4 (by have := HB1.out.lt; omega)).at_ 3⟩
             have hc0 : w4.cell? ⟨W.heap.size, 0, none⟩ = some (.bool a.put) := (HB1.out.keep hk4 (by have := HB1.out.lt; omega)).at_ 0
             have hc1 : w4.cell? ⟨W.heap.size, 1, none⟩ = some (.int .i64 a.prev) := (HB1.out.keep hk4 (by have := HB1.out.lt; omega)).at_ 1
             have hc2 : w4.cell? ⟨W.heap.size, 2, none⟩ = some (.int .i64 a.term) := (HB1.out.keep hk4 (by have := HB1.out.lt; omega)).at_ 2
             have hc3 : w4.cell? ⟨W.heap.size, 3, none⟩ = some (.slice a.X a.n a.c) := (HB1.out.keep hk4 (by have := HB1.out.lt; omega)).at_ 3
             have hle4 : w1.heap.size ≤ w4.heap.size := hk4.size
             clear ho4 hg4 hk4)
          | (refine E22.step2 rfl (.tmp 19) (.tmp 21) rfl (.slice A1 n d1) (some ⟨w4.heap.size, 0, none⟩) 1 1 rfl rfl w1.heap.size n _ (a.cells) _ _ rfl rfl (World.ownsRow.alloc HO4.out (.cells #[.bool a.put, .int .i64 a.prev, .int .i64 a.term, .slice a.X a.n a.c] 33)) rfl (hSa.out) (hOne.out) (by omega) (by unfold maxLen; omega) (by first | omega | (simp; omega)) ?_
             intro A2 d2 w5 ho5 hg5 _
             have hk5 := (HK4.out.alloc (.cells #[.bool a.put, .int .i64 a.prev, .int .i64 a.term, .slice a.X a.n a.c] 33)).grown hg5 (fun g e _ => HO4.out.block g e)
             have hS5 : Hid (w5.cell? ⟨W.heap.size, 0, none⟩ = some (.bool a.put) ∧ w5.cell? ⟨W.heap.size, 1, none⟩ = some (.int .i64 a.prev) ∧ w5.cell? ⟨W.heap.size, 2, none⟩ = some (.int .i64 a.term) ∧ w5.cell? ⟨W.heap.size, 3, none⟩ = some (.slice a.X a.n a.c)) := hid ⟨(HB1.out.keep hk5 (by have := HB1.out.lt; omega)).at_ 0, (HB1.out.keep hk5 (by have := HB1.out.lt; omega)).at_ 1, (HB1.out.keep hk5 (by have := HB1.out.lt; omega)).at_ 2, (HB1.out.keep hk5 (by have := HB1.out.lt; omega)).at_ 3⟩
             have HO9 := hid ho5
             have HK9 := hid hk5
             have HS9 := hid (HSm.out _ _ _ ho5 hk5)
             clear ho5 hg5 hk5)
          | (refine E22.step2 rfl (.tmp 17) (.tmp 18) rfl (.slice (some ⟨w1.heap.size, 0, none⟩) 0 0) X n c rfl rfl w1.heap.size 0 [] (actFlat l) n _ (Nat.zero_add _) (List.nil_append _) hOb.out hfl (HSl.out.src (HKb.out)) (actFlat_one l) (by omega) (by unfold maxLen; omega) (by first | omega | (simp; done) | (simp; omega)) ?_
             intro A1 d1 w4b ho4 hg4 _
             have HO4b := hid ho4
             have hk4 : Keep (fun i => w1.heap.size ≤ i) w1 w4b := (HKb.out.wide (fun _ _ f => f.elim)).grown hg4 (fun g e hl => by simp [Value.ownBlock] at e; omega)
             have HK4b := hid hk4
             have hB4 := hid (HBb.out.keep (((Keep.refl (· = w1.heap.size) ((w1.alloc (.cells #[] 33)).alloc (.cells #[.bool a.put, .int .i64 a.prev, .int .i64 a.term, .slice a.X a.n a.c] 33)))).drew.grown hg4 (fun g e _ => by simp [Value.ownBlock] at e; omega)) (by omega))
             have hSb : Hid (0 < 1 → ∃ ad, (some ⟨w1.heap.size + 1, 0, none⟩ : Option Addr) = some ad ∧ ∀ j u, (a.cells)[j]? = some u → w4b.cell? (ad.add j) = some u) := hid (fun _ => ⟨_, rfl, src_blk hB4.out⟩)
             clear hB4
             have hS4 : Hid (w4b.cell? ⟨W.heap.size, 0, none⟩ = some (.bool a.put) ∧ w4b.cell? ⟨W.heap.size, 1, none⟩ = some (.int .i64 a.prev) ∧ w4b.cell? ⟨W.heap.size, 2, none⟩ = some (.int .i64 a.term) ∧ w4b.cell? ⟨W.heap.size, 3, none⟩ = some (.slice a.X a.n a.c)) := hid ⟨(HB1.out.keep hk4 (by have := HB1.out.lt; omega)).at_ 0, (HB1.out.keep hk4 (by have := HB1.out.lt; omega)).at_ 1, (HB1.out.keep hk4 (by have := HB1.out.lt; omega)).at_ 2, (HB1.out.keep hk4 (by have := HB1.out.lt; omega)).at_ 3⟩
             have hc0 : w4b.cell? ⟨W.heap.size, 0, none⟩ = some (.bool a.put) := (HB1.out.keep hk4 (by have := HB1.out.lt; omega)).at_ 0
             have hc1 : w4b.cell? ⟨W.heap.size, 1, none⟩ = some (.int .i64 a.prev) := (HB1.out.keep hk4 (by have := HB1.out.lt; omega)).at_ 1
             have hc2 : w4b.cell? ⟨W.heap.size, 2, none⟩ = some (.int .i64 a.term) := (HB1.out.keep hk4 (by have := HB1.out.lt; omega)).at_ 2
             have hc3 : w4b.cell? ⟨W.heap.size, 3, none⟩ = some (.slice a.X a.n a.c) := (HB1.out.keep hk4 (by have := HB1.out.lt; omega)).at_ 3
             have hle4 : w1.heap.size ≤ w4b.heap.size := hk4.size
             clear ho4 hg4 hk4)
          | (refine E22.step2 rfl (.tmp 19) (.tmp 21) rfl (.slice A1 n d1) (some ⟨w1.heap.size + 1, 0, none⟩) 1 1 rfl rfl w1.heap.size n _ (a.cells) _ _ rfl rfl HO4b.out rfl (hSb.out) (hOne.out) (by omega) (by unfold maxLen; omega) (by first | omega | (simp; omega)) ?_
             intro A2 d2 w5 ho5 hg5 _
             have hk5 := HK4b.out.grown hg5 (fun g e _ => HO4b.out.block g e)
             have hS5 : Hid (w5.cell? ⟨W.heap.size, 0, none⟩ = some (.bool a.put) ∧ w5.cell? ⟨W.heap.size, 1, none⟩ = some (.int .i64 a.prev) ∧ w5.cell? ⟨W.heap.size, 2, none⟩ = some (.int .i64 a.term) ∧ w5.cell? ⟨W.heap.size, 3, none⟩ = some (.slice a.X a.n a.c)) := hid ⟨(HB1.out.keep hk5 (by have := HB1.out.lt; omega)).at_ 0, (HB1.out.keep hk5 (by have := HB1.out.lt; omega)).at_ 1, (HB1.out.keep hk5 (by have := HB1.out.lt; omega)).at_ 2, (HB1.out.keep hk5 (by have := HB1.out.lt; omega)).at_ 3⟩
             have HO9 := hid ho5
             have HK9 := hid hk5
             have HS9 := hid (HSm.out _ _ _ ho5 hk5)
             clear ho5 hg5 hk5)
          | (refine E22.step2 rfl (.tmp 17) (.tmp 18) rfl (.slice (some ⟨w1.heap.size + 1, 0, none⟩) 0 0) X n c rfl rfl w1.heap.size 0 [] (actFlat l) n _ (Nat.zero_add _) (List.nil_append _) hOc.out hfl (HSl.out.src (HKc.out)) (actFlat_one l) (by omega) (by unfold maxLen; omega) (by first | omega | (simp; done) | (simp; omega)) ?_
             intro A1 d1 w4c ho4 hg4 _
             have HO4c := hid ho4
             have hk4 : Keep (fun i => w1.heap.size ≤ i) w1 w4c := (HKc.out.wide (fun _ _ f => f.elim)).grown hg4 (fun g e hl => by simp [Value.ownBlock] at e; omega)
             have HK4c := hid hk4
             have hB4 := hid (HBc.out.keep (((Keep.refl (· = w1.heap.size + 1) ((w1.alloc (.cells #[.bool a.put, .int .i64 a.prev, .int .i64 a.term, .slice a.X a.n a.c] 33)).alloc (.cells #[] 33)))).drew.grown hg4 (fun g e _ => by simp [Value.ownBlock] at e; omega)) (by omega))
             have hSc : Hid (0 < 1 → ∃ ad, (some ⟨w1.heap.size, 0, none⟩ : Option Addr) = some ad ∧ ∀ j u, (a.cells)[j]? = some u → w4c.cell? (ad.add j) = some u) := hid (fun _ => ⟨_, rfl, src_blk hB4.out⟩)
             clear hB4
             have hS4 : Hid (w4c.cell? ⟨W.heap.size, 0, none⟩ = some (.bool a.put) ∧ w4c.cell? ⟨W.heap.size, 1, none⟩ = some (.int .i64 a.prev) ∧ w4c.cell? ⟨W.heap.size, 2, none⟩ = some (.int .i64 a.term) ∧ w4c.cell? ⟨W.heap.size, 3, none⟩ = some (.slice a.X a.n a.c)) := hid ⟨(HB1.out.keep hk4 (by have := HB1.out.lt; omega)).at_ 0, (HB1.out.keep hk4 (by have := HB1.out.lt; omega)).at_ 1, (HB1.out.keep hk4 (by have := HB1.out.lt; omega)).at_ 2, (HB1.out.keep hk4 (by have := HB1.out.lt; omega)).at_ 3⟩
             have hc0 : w4c.cell? ⟨W.heap.size, 0, none⟩ = some (.bool a.put) := (HB1.out.keep hk4 (by have := HB1.out.lt; omega)).at_ 0
             have hc1 : w4c.cell? ⟨W.heap.size, 1, none⟩ = some (.int .i64 a.prev) := (HB1.out.keep hk4 (by have := HB1.out.lt; omega)).at_ 1
             have hc2 : w4c.cell? ⟨W.heap.size, 2, none⟩ = some (.int .i64 a.term) := (HB1.out.keep hk4 (by have := HB1.out.lt; omega)).at_ 2
             have hc3 : w4c.cell? ⟨W.heap.size, 3, none⟩ = some (.slice a.X a.n a.c) := (HB1.out.keep hk4 (by have := HB1.out.lt; omega)).at_ 3
             have hle4 : w1.heap.size ≤ w4c.heap.size := hk4.size
             clear ho4 hg4 hk4)
          | (refine E22.step2 rfl (.tmp 19) (.tmp 21) rfl (.slice A1 n d1) (some ⟨w1.heap.size, 0, none⟩) 1 1 rfl rfl w1.heap.size n _ (a.cells) _ _ rfl rfl HO4c.out rfl (hSc.out) (hOne.out) (by omega) (by unfold maxLen; omega) (by first | omega | (simp; omega)) ?_
             intro A2 d2 w5 ho5 hg5 _
             have hk5 := HK4c.out.grown hg5 (fun g e _ => HO4c.out.block g e)
             have hS5 : Hid (w5.cell? ⟨W.heap.size, 0, none⟩ = some (.bool a.put) ∧ w5.cell? ⟨W.heap.size, 1, none⟩ = some (.int .i64 a.prev) ∧ w5.cell? ⟨W.heap.size, 2, none⟩ = some (.int .i64 a.term) ∧ w5.cell? ⟨W.heap.size, 3, none⟩ = some (.slice a.X a.n a.c)) := hid ⟨(HB1.out.keep hk5 (by have := HB1.out.lt; omega)).at_ 0, (HB1.out.keep hk5 (by have := HB1.out.lt; omega)).at_ 1, (HB1.out.keep hk5 (by have := HB1.out.lt; omega)).at_ 2, (HB1.out.keep hk5 (by have := HB1.out.lt; omega)).at_ 3⟩
             have HO9 := hid ho5
             have HK9 := hid hk5
             have HS9 := hid (HSm.out _ _ _ ho5 hk5)
             clear ho5 hg5 hk5)
          | (go_at_call 12; (with_reducible refine HS9.out.mono ?_); rintro e w5b ⟨rfl, hk6⟩
             have HK5b := hid (HK9.out.then hk6)
             have hS6 : Hid (w5b.cell? ⟨W.heap.size, 0, none⟩ = some (.bool a.put) ∧ w5b.cell? ⟨W.heap.size, 1, none⟩ = some (.int .i64 a.prev) ∧ w5b.cell? ⟨W.heap.size, 2, none⟩ = some (.int .i64 a.term) ∧ w5b.cell? ⟨W.heap.size, 3, none⟩ = some (.slice a.X a.n a.c)) := hid ⟨(HB1.out.keep HK5b.out (by have := HB1.out.lt; omega)).at_ 0, (HB1.out.keep HK5b.out (by have := HB1.out.lt; omega)).at_ 1, (HB1.out.keep HK5b.out (by have := HB1.out.lt; omega)).at_ 2, (HB1.out.keep HK5b.out (by have := HB1.out.lt; omega)).at_ 3⟩
             have HS9b := hid (HS2.out w5b (HK1.out.then HK5b.out.own))
             clear hk6 HS9)
          | (go_at_call 12; (with_reducible refine HS9b.out.mono ?_); rintro e w6 ⟨rfl, hk6⟩
             have HK6 := hid (HK5b.out.then hk6)
             have hS7 : Hid (w6.cell? ⟨W.heap.size, 0, none⟩ = some (.bool a.put) ∧ w6.cell? ⟨W.heap.size, 1, none⟩ = some (.int .i64 a.prev) ∧ w6.cell? ⟨W.heap.size, 2, none⟩ = some (.int .i64 a.term) ∧ w6.cell? ⟨W.heap.size, 3, none⟩ = some (.slice a.X a.n a.c)) := hid ⟨(HB1.out.keep HK6.out (by have := HB1.out.lt; omega)).at_ 0, (HB1.out.keep HK6.out (by have := HB1.out.lt; omega)).at_ 1, (HB1.out.keep HK6.out (by have := HB1.out.lt; omega)).at_ 2, (HB1.out.keep HK6.out (by have := HB1.out.lt; omega)).at_ 3⟩
             clear hk6 HS9b))
      all_goals
        go_wp2_with fail
        go_ret
        exact ⟨rfl, HK1.out.then HK6.out.own⟩
  · have hsm' : smallA (l ++ [a]) = false := by simpa using hsm
    go_enter Try.func4, Try.ntmps4
    go_wp2_with (first
      | (go_at_call 11; (with_reducible refine (wakes_any _).mono ?_); rintro e w1 ⟨rfl, hk1⟩
         have HK1 := hid (HK0.out.then hk1)
         have HB1 := hid (HB0.out.keep hk1 (fun f => f))
         clear hk1))
    have HSl := hid (HSl0.out.same HK1.out)
    have c0 : w1.cell? ⟨W.heap.size, 0, none⟩ = some (.bool a.put) := HB1.out.at_ 0
    have c1 : w1.cell? ⟨W.heap.size, 1, none⟩ = some (.int .i64 a.prev) := HB1.out.at_ 1
    have c2 : w1.cell? ⟨W.heap.size, 2, none⟩ = some (.int .i64 a.term) := HB1.out.at_ 2
    have c3 : w1.cell? ⟨W.heap.size, 3, none⟩ = some (.slice a.X a.n a.c) := HB1.out.at_ 3
    have hlt : W.heap.size < w1.heap.size := HB1.out.lt
    have HSm := hid (fun w5 A2 d2 (ho : Own w5 w1.heap.size 33 4 (.slice A2 (n + 1) d2) (n + 1) (actFlat l ++ a.cells)) (hk : Keep (fun i => w1.heap.size ≤ i) w1 w5) => HS.out w5 A2 d2 (ho.rebase (fun _ _ => Nat.zero_le _)) (HK1.out.then hk.own))
    rw [hsm'] at HSm
    have hS0 : Hid (w1.drew.cell? ⟨W.heap.size, 0, none⟩ = some (.bool a.put) ∧ w1.drew.cell? ⟨W.heap.size, 1, none⟩ = some (.int .i64 a.prev) ∧ w1.drew.cell? ⟨W.heap.size, 2, none⟩ = some (.int .i64 a.term) ∧ w1.drew.cell? ⟨W.heap.size, 3, none⟩ = some (.slice a.X a.n a.c)) := hid ⟨HB1.out.at_ 0, HB1.out.at_ 1, HB1.out.at_ 2, HB1.out.at_ 3⟩
    have hOa := hid (World.ownsRow_made (base := w1.heap.size) (e := 33) (size := 4) w1 #[] 0 (Nat.le_refl _) (by simp [maxLen]) rfl)
    have hOb := hid (World.ownsRow.alloc hOa.out (.cells #[.bool a.put, .int .i64 a.prev, .int .i64 a.term, .slice a.X a.n a.c] 33))
    have hOc := hid (World.ownsRow_made (base := w1.heap.size) (e := 33) (size := 4) (w1.alloc (.cells #[.bool a.put, .int .i64 a.prev, .int .i64 a.term, .slice a.X a.n a.c] 33)) #[] 0 (by simp) (by simp [maxLen]) rfl)
    rw [World.size_alloc] at hOc
    have hBb := (Blk.made (w1.alloc (.cells #[] 33)) 33 #[.bool a.put, .int .i64 a.prev, .int .i64 a.term, .slice a.X a.n a.c])
    rw [World.size_alloc] at hBb
    have HBb := hid hBb
    have HBc := hid ((Blk.made w1 33 #[.bool a.put, .int .i64 a.prev, .int .i64 a.term, .slice a.X a.n a.c]).alloc (.cells #[] 33))
    have HKa := hid (((Keep.refl (fun _ => False) w1).alloc (.cells #[] 33)).drew)
    have HKb := hid ((((Keep.refl (fun _ => False) w1).alloc (.cells #[] 33)).alloc (.cells #[.bool a.put, .int .i64 a.prev, .int .i64 a.term, .slice a.X a.n a.c] 33)).drew)
    have HKc := hid ((((Keep.refl (fun _ => False) w1).alloc (.cells #[.bool a.put, .int .i64 a.prev, .int .i64 a.term, .slice a.X a.n a.c] 33)).alloc (.cells #[] 33)).drew)
    have hOne : Hid (∀ u ∈ a.cells, u.oneCell' = true) := hid (by intro u hu; exact actFlat_one [a] u (by simpa [actFlat] using hu))
    clear hBb
    first
      | (go_region_law (first
             | (refine E22.step2 rfl (.tmp 17) (.tmp 18) rfl (.slice (some ⟨w1.heap.size, 0, none⟩) 0 0) X n c rfl rfl w1.heap.size 0 [] (actFlat l) n _ (Nat.zero_add _) (List.nil_append _) hOa.out hfl (HSl.out.src (HKa.out)) (actFlat_one l) (by omega) (by unfold maxLen; omega) (by first | omega | (simp; done) | (simp; omega)) ?_
                intro A1 d1 w4 ho4 hg4 _
                have HO4 := hid ho4
                have hk4 : Keep (fun i => w1.heap.size ≤ i) w1 w4 := (HKa.out.wide (fun _ _ f => f.elim)).grown hg4 (fun g e hl => by simp [Value.ownBlock] at e; omega)
                have HK4 := hid hk4
                have hSa : Hid (0 < 1 → ∃ ad, (some ⟨w4.heap.size, 0, none⟩ : Option Addr) = some ad ∧ ∀ j u, (a.cells)[j]? = some u → (w4.alloc (.cells #[.bool a.put, .int .i64 a.prev, .int .i64 a.term, .slice a.X a.n a.c] 33)).cell? (ad.add j) = some u) := hid (fun _ => ⟨_, rfl, src_new (w := w4) rfl⟩)
                have hS4 : Hid (w4.cell? ⟨W.heap.size, 0, none⟩ = some (.bool a.put) ∧ w4.cell? ⟨W.heap.size, 1, none⟩ = some (.int .i64 a.prev) ∧ w4.cell? ⟨W.heap.size, 2, none⟩ = some (.int .i64 a.term) ∧ w4.cell? ⟨W.heap.size, 3, none⟩ = some (.slice a.X a.n a.c)) := hid ⟨(HB1.out.keep hk4 (by have := HB1.out.lt; omega)).at_ 0, (HB1.out.keep hk4 (by have := HB1.out.lt; omega)).at_ 1, (HB1.out.keep hk4 (by have := HB1.out.lt; omega)).at_ 2, (HB1.out.keep hk4 (by have := HB1.out.lt; omega)).at_ 3⟩
                have hc0 : w4.cell? ⟨W.heap.size, 0, none⟩ = some (.bool a.put) := (HB1.out.keep hk4 (by have := HB1.out.lt; omega)).at_ 0
                have hc1 : w4.cell? ⟨W.heap.size, 1, none⟩ = some (.int .i64 a.prev) := (HB1.out.keep hk4 (by have := HB1.out.lt; omega)).at_ 1
                have hc2 : w4.cell? ⟨W.heap.size, 2, none⟩ = some (.int .i64 a.term) := (HB1.out.keep hk4 (by have := HB1.out.lt; omega)).at_ 2
                have hc3 : w4.cell? ⟨W.heap.size, 3, none⟩ = some (.slice a.X a.n a.c) := (HB1.out.keep hk4 (by have := HB1.out.lt; omega)).at_ 3
                have hle4 : w1.heap.size ≤ w4.heap.size := hk4.size
                clear ho4 hg4 hk4)
             | (refine E22.step2 rfl (.tmp 19) (.tmp 21) rfl (.slice A1 n d1) (some ⟨w4.heap.size, 0, none⟩) 1 1 rfl rfl w1.heap.size n _ (a.cells) _ _ rfl rfl (World.ownsRow.alloc HO4.out (.cells #[.bool a.put, .int .i64 a.prev, .int .i64 a.term, .slice a.X a.n a.c] 33)) rfl (hSa.out) (hOne.out) (by omega) (by unfold maxLen; omega) (by first | omega | (simp; omega)) ?_
                intro A2 d2 w5 ho5 hg5 _
                have hk5 := (HK4.out.alloc (.cells #[.bool a.put, .int .i64 a.prev, .int .i64 a.term, .slice a.X a.n a.c] 33)).grown hg5 (fun g e _ => HO4.out.block g e)
                have hS5 : Hid (w5.cell? ⟨W.heap.size, 0, none⟩ = some (.bool a.put) ∧ w5.cell? ⟨W.heap.size, 1, none⟩ = some (.int .i64 a.prev) ∧ w5.cell? ⟨W.heap.size, 2, none⟩ = some (.int .i64 a.term) ∧ w5.cell? ⟨W.heap.size, 3, none⟩ = some (.slice a.X a.n a.c)) := hid ⟨(HB1.out.keep hk5 (by have := HB1.out.lt; omega)).at_ 0, (HB1.out.keep hk5 (by have := HB1.out.lt; omega)).at_ 1, (HB1.out.keep hk5 (by have := HB1.out.lt; omega)).at_ 2, (HB1.out.keep hk5 (by have := HB1.out.lt; omega)).at_ 3⟩
                have HO9 := hid ho5
                have HK9 := hid hk5
                have HS9 := hid (HSm.out _ _ _ ho5 hk5)
                clear ho5 hg5 hk5)
             | (refine E22.step2 rfl (.tmp 17) (.tmp 18) rfl (.slice (some ⟨w1.heap.size, 0, none⟩) 0 0) X n c rfl rfl w1.heap.size 0 [] (actFlat l) n _ (Nat.zero_add _) (List.nil_append _) hOb.out hfl (HSl.out.src (HKb.out)) (actFlat_one l) (by omega) (by unfold maxLen; omega) (by first | omega | (simp; done) | (simp; omega)) ?_
                intro A1 d1 w4b ho4 hg4 _
                have HO4b := hid ho4
                have hk4 : Keep (fun i => w1.heap.size ≤ i) w1 w4b := (HKb.out.wide (fun _ _ f => f.elim)).grown hg4 (fun g e hl => by simp [Value.ownBlock] at e; omega)
                have HK4b := hid hk4
                have hB4 := hid (HBb.out.keep (((Keep.refl (· = w1.heap.size) ((w1.alloc (.cells #[] 33)).alloc (.cells #[.bool a.put, .int .i64 a.prev, .int .i64 a.term, .slice a.X a.n a.c] 33)))).drew.grown hg4 (fun g e _ => by simp [Value.ownBlock] at e; omega)) (by omega))
                have hSb : Hid (0 < 1 → ∃ ad, (some ⟨w1.heap.size + 1, 0, none⟩ : Option Addr) = some ad ∧ ∀ j u, (a.cells)[j]? = some u → w4b.cell? (ad.add j) = some u) := hid (fun _ => ⟨_, rfl, src_blk hB4.out⟩)
                clear hB4
                have hS4 : Hid (w4b.cell? ⟨W.heap.size, 0, none⟩ = some (.bool a.put) ∧ w4b.cell? ⟨W.heap.size, 1, none⟩ = some (.int .i64 a.prev) ∧ w4b.cell? ⟨W.heap.size, 2, none⟩ = some (.int .i64 a.term) ∧ w4b.cell? ⟨W.heap.size, 3, none⟩ = some (.slice a.X a.n a.c)) := hid ⟨(HB1.out.keep hk4 (by have := HB1.out.lt; omega)).at_ 0, (HB1.out.keep hk4 (by have := HB1.out.lt; omega)).at_ 1, (HB1.out.keep hk4 (by have := HB1.out.lt; omega)).at_ 2, (HB1.out.keep hk4 (by have := HB1.out.lt; omega)).at_ 3⟩
                have hc0 : w4b.cell? ⟨W.heap.size, 0, none⟩ = some (.bool a.put) := (HB1.out.keep hk4 (by have := HB1.out.lt; omega)).at_ 0
                have hc1 : w4b.cell? ⟨W.heap.size, 1, none⟩ = some (.int .i64 a.prev) := (HB1.out.keep hk4 (by have := HB1.out.lt; omega)).at_ 1
                have hc2 : w4b.cell? ⟨W.heap.size, 2, none⟩ = some (.int .i64 a.term) := (HB1.out.keep hk4 (by have := HB1.out.lt; omega)).at_ 2
                have hc3 : w4b.cell? ⟨W.heap.size, 3, none⟩ = some (.slice a.X a.n a.c) := (HB1.out.keep hk4 (by have := HB1.out.lt; omega)).at_ 3
                have hle4 : w1.heap.size ≤ w4b.heap.size := hk4.size
                clear ho4 hg4 hk4)
             | (refine E22.step2 rfl (.tmp 19) (.tmp 21) rfl (.slice A1 n d1) (some ⟨w1.heap.size + 1, 0, none⟩) 1 1 rfl rfl w1.heap.size n _ (a.cells) _ _ rfl rfl HO4b.out rfl (hSb.out) (hOne.out) (by omega) (by unfold maxLen; omega) (by first | omega | (simp; omega)) ?_
                intro A2 d2 w5 ho5 hg5 _
                have hk5 := HK4b.out.grown hg5 (fun g e _ => HO4b.out.block g e)
                have hS5 : Hid (w5.cell? ⟨W.heap.size, 0, none⟩ = some (.bool a.put) ∧ w5.cell? ⟨W.heap.size, 1, none⟩ = some (.int .i64 a.prev) ∧ w5.cell? ⟨W.heap.size, 2, none⟩ = some (.int .i64 a.term) ∧ w5.cell? ⟨W.heap.size, 3, none⟩ = some (.slice a.X a.n a.c)) := hid ⟨(HB1.out.keep hk5 (by have := HB1.out.lt; omega)).at_ 0, (HB1.out.keep hk5 (by have := HB1.out.lt; omega)).at_ 1, (HB1.out.keep hk5 (by have := HB1.out.lt; omega)).at_ 2, (HB1.out.keep hk5 (by have := HB1.out.lt; omega)).at_ 3⟩
                have HO9 := hid ho5
                have HK9 := hid hk5
                have HS9 := hid (HSm.out _ _ _ ho5 hk5)
                clear ho5 hg5 hk5)
             | (refine E22.step2 rfl (.tmp 17) (.tmp 18) rfl (.slice (some ⟨w1.heap.size + 1, 0, none⟩) 0 0) X n c rfl rfl w1.heap.size 0 [] (actFlat l) n _ (Nat.zero_add _) (List.nil_append _) hOc.out hfl (HSl.out.src (HKc.out)) (actFlat_one l) (by omega) (by unfold maxLen; omega) (by first | omega | (simp; done) | (simp; omega)) ?_
                intro A1 d1 w4c ho4 hg4 _
                have HO4c := hid ho4
                have hk4 : Keep (fun i => w1.heap.size ≤ i) w1 w4c := (HKc.out.wide (fun _ _ f => f.elim)).grown hg4 (fun g e hl => by simp [Value.ownBlock] at e; omega)
                have HK4c := hid hk4
                have hB4 := hid (HBc.out.keep (((Keep.refl (· = w1.heap.size + 1) ((w1.alloc (.cells #[.bool a.put, .int .i64 a.prev, .int .i64 a.term, .slice a.X a.n a.c] 33)).alloc (.cells #[] 33)))).drew.grown hg4 (fun g e _ => by simp [Value.ownBlock] at e; omega)) (by omega))
                have hSc : Hid (0 < 1 → ∃ ad, (some ⟨w1.heap.size, 0, none⟩ : Option Addr) = some ad ∧ ∀ j u, (a.cells)[j]? = some u → w4c.cell? (ad.add j) = some u) := hid (fun _ => ⟨_, rfl, src_blk hB4.out⟩)
                clear hB4
                have hS4 : Hid (w4c.cell? ⟨W.heap.size, 0, none⟩ = some (.bool a.put) ∧ w4c.cell? ⟨W.heap.size, 1, none⟩ = some (.int .i64 a.prev) ∧ w4c.cell? ⟨W.heap.size, 2, none⟩ = some (.int .i64 a.term) ∧ w4c.cell? ⟨W.heap.size, 3, none⟩ = some (.slice a.X a.n a.c)) := hid ⟨(HB1.out.keep hk4 (by have := HB1.out.lt; omega)).at_ 0, (HB1.out.keep hk4 (by have := HB1.out.lt; omega)).at_ 1, (HB1.out.keep hk4 (by have := HB1.out.lt; omega)).at_ 2, (HB1.out.keep hk4 (by have := HB1.out.lt; omega)).at_ 3⟩
                have hc0 : w4c.cell? ⟨W.heap.size, 0, none⟩ = some (.bool a.put) := (HB1.out.keep hk4 (by have := HB1.out.lt; omega)).at_ 0
                have hc1 : w4c.cell? ⟨W.heap.size, 1, none⟩ = some (.int .i64 a.prev) := (HB1.out.keep hk4 (by have := HB1.out.lt; omega)).at_ 1
                have hc2 : w4c.cell? ⟨W.heap.size, 2, none⟩ = some (.int .i64 a.term) := (HB1.out.keep hk4 (by have := HB1.out.lt; omega)).at_ 2
                have hc3 : w4c.cell? ⟨W.heap.size, 3, none⟩ = some (.slice a.X a.n a.c) := (HB1.out.keep hk4 (by have := HB1.out.lt; omega)).at_ 3
                have hle4 : w1.heap.size ≤ w4c.heap.size := hk4.size
                clear ho4 hg4 hk4)
             | (refine E22.step2 rfl (.tmp 19) (.tmp 21) rfl (.slice A1 n d1) (some ⟨w1.heap.size, 0, none⟩) 1 1 rfl rfl w1.heap.size n _ (a.cells) _ _ rfl rfl HO4c.out rfl (hSc.out) (hOne.out) (by omega) (by unfold maxLen; omega) (by first | omega | (simp; omega)) ?_
                intro A2 d2 w5 ho5 hg5 _
                have hk5 := HK4c.out.grown hg5 (fun g e _ => HO4c.out.block g e)
                have hS5 : Hid (w5.cell? ⟨W.heap.size, 0, none⟩ = some (.bool a.put) ∧ w5.cell? ⟨W.heap.size, 1, none⟩ = some (.int .i64 a.prev) ∧ w5.cell? ⟨W.heap.size, 2, none⟩ = some (.int .i64 a.term) ∧ w5.cell? ⟨W.heap.size, 3, none⟩ = some (.slice a.X a.n a.c)) := hid ⟨(HB1.out.keep hk5 (by have := HB1.out.lt; omega)).at_ 0, (HB1.out.keep hk5 (by have := HB1.out.lt; omega)).at_ 1, (HB1.out.keep hk5 (by have := HB1.out.lt; omega)).at_ 2, (HB1.out.keep hk5 (by have := HB1.out.lt; omega)).at_ 3⟩
                have HO9 := hid ho5
                have HK9 := hid hk5
                have HS9 := hid (HSm.out _ _ _ ho5 hk5)
                clear ho5 hg5 hk5)
             | (go_simp
                go_at_call 12; (with_reducible refine HS9.out.mono ?_); rintro e w6 ⟨rfl, hk6⟩
                have HK6 := hid (HK9.out.then hk6)
                clear hk6 HS9)))
      | fail
    all_goals
      go_wp2_with fail
      go_ret
      exact ⟨rfl, HK1.out.then HK6.out.own⟩
end Go.Proofs.Ytbellndcgagclaa

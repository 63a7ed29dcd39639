import Derived.Test.YtbellndcgagclaaPutQ
namespace Go.Proofs.Ytbellndcgagclaa
open Go.RowKit
set_option maxHeartbeats 16000000 in
set_option maxRecDepth 100000 in
theorem raftlogPutEffect_walk (W : World) (X : Option Addr) (n c : Nat) (l : List LAct) (h : As W (fun _ => False) X n c l) (a : LAct) (ha : Ls W (fun _ => False) a.X a.n a.c a.es) (hf : Few (l ++ [a])) (hn : n ≤ 1048576) :
    Calls Try.prog 6 #[.slice X n c, .agg #[.bool a.put, .int .i64 a.prev, .int .i64 a.term, .slice a.X a.n a.c]] W (PlainPost W true) := by
  have HA := hid h
  have Ha := hid ha
  have Hl := hid h.len
  have HSl0 := hid h.sl
  have hfl : (actFlat l).length = n * 4 := by rw [actFlat_len, h.len]
  have HS := hid (fun w5 A2 d2 (ho : Own w5 0 33 4 (.slice A2 (n + 1) d2) (n + 1) (actFlat l ++ a.cells)) (hk : Same W w5) => small_any w5 (fun _ => False) A2 (n + 1) d2 (l ++ [a]) (h.snoc ha hk ho) hf)
  have HP := hid (fun w (hs : Same W w) => play_any w (fun _ => False) X n c l (h.same hs))
  have HK0 := hid ((Keep.refl (fun _ => False) W).alloc (.cells #[.bool a.put, .int .i64 a.prev, .int .i64 a.term, .slice a.X a.n a.c] 33))
  have HB0 := hid (Blk.made W 33 #[.bool a.put, .int .i64 a.prev, .int .i64 a.term, .slice a.X a.n a.c])
  clear h ha hf
  by_cases hsm : smallA (l ++ [a]) = true
  · obtain ⟨hL, hT2⟩ := smallA_snoc hsm
    have hT : (ents l).length ≤ 120 := by omega
    have han : a.n ≤ 120 := by have := Ha.out.len; omega
    have hq := playQ_le hT
    have hch := hid (playQ_chain l)
    generalize playQ l = q at *
    cases hok : putOk id q a.prev a.term (a.es.map En.pe) with
    | false =>
      go_enter Try.func6, Try.ntmps6
      go_wp2_with (first
        | (go_at_call 11; (with_reducible refine (wakes_any _).mono ?_); rintro e w1 ⟨rfl, hk1⟩
           have HK1 := hid (HK0.out.then hk1)
           have HB1 := hid (HB0.out.keep hk1 (fun f => f))
           clear hk1))
      have HSl := hid (HSl0.out.same HK1.out)
      have c0 : w1.cell? ⟨W.heap.size, 0, none⟩ = some (.bool a.put) := HB1.out.at_ 0
      have c1 : w1.cell? ⟨W.heap.size, 1, none⟩ = some (.int .i64 a.prev) := HB1.out.at_ 1
      have c2 : w1.cell? ⟨W.heap.size, 2, none⟩ = some (.int .i64 a.term) := HB1.out.at_ 2
      have c3 : w1.cell? ⟨W.heap.size, 3, none⟩ = some (.slice a.X a.n a.c) := HB1.out.at_ 3
      have hlt : W.heap.size < w1.heap.size := HB1.out.lt
      have HSm := hid (fun w5 A2 d2 (ho : Own w5 w1.heap.size 33 4 (.slice A2 (n + 1) d2) (n + 1) (actFlat l ++ a.cells)) (hk : Keep (fun i => w1.heap.size ≤ i) w1 w5) => HS.out w5 A2 d2 (ho.rebase (fun _ _ => Nat.zero_le _)) (HK1.out.then hk.own))
      rw [hsm] at HSm
      have hS0 : Hid (w1.drew.cell? ⟨W.heap.size, 0, none⟩ = some (.bool a.put) ∧ w1.drew.cell? ⟨W.heap.size, 1, none⟩ = some (.int .i64 a.prev) ∧ w1.drew.cell? ⟨W.heap.size, 2, none⟩ = some (.int .i64 a.term) ∧ w1.drew.cell? ⟨W.heap.size, 3, none⟩ = some (.slice a.X a.n a.c)) := hid ⟨HB1.out.at_ 0, HB1.out.at_ 1, HB1.out.at_ 2, HB1.out.at_ 3⟩
      have hOa := hid (World.ownsRow_made (base := w1.heap.size) (e := 33) (size := 4) w1 #[] 0 (Nat.le_refl _) (by simp [maxLen]) rfl)
      have hOb := hid (World.ownsRow.alloc hOa.out (.cells #[.bool a.put, .int .i64 a.prev, .int .i64 a.term, .slice a.X a.n a.c] 33))
      have hOc := hid (World.ownsRow_made (base := w1.heap.size) (e := 33) (size := 4) (w1.alloc (.cells #[.bool a.put, .int .i64 a.prev, .int .i64 a.term, .slice a.X a.n a.c] 33)) #[] 0 (by simp) (by simp [maxLen]) rfl)
      rw [World.size_alloc] at hOc
      have hBb := (Blk.made (w1.alloc (.cells #[] 33)) 33 #[.bool a.put, .int .i64 a.prev, .int .i64 a.term, .slice a.X a.n a.c])
      rw [World.size_alloc] at hBb
      have HBb := hid hBb
      have HBc := hid ((Blk.made w1 33 #[.bool a.put, .int .i64 a.prev, .int .i64 a.term, .slice a.X a.n a.c]).alloc (.cells #[] 33))
      have HKa := hid (((Keep.refl (fun _ => False) w1).alloc (.cells #[] 33)).drew)
      have HKb := hid ((((Keep.refl (fun _ => False) w1).alloc (.cells #[] 33)).alloc (.cells #[.bool a.put, .int .i64 a.prev, .int .i64 a.term, .slice a.X a.n a.c] 33)).drew)
      have HKc := hid ((((Keep.refl (fun _ => False) w1).alloc (.cells #[.bool a.put, .int .i64 a.prev, .int .i64 a.term, .slice a.X a.n a.c] 33)).alloc (.cells #[] 33)).drew)
      have hOne : Hid (∀ u ∈ a.cells, u.oneCell' = true) := hid (by intro u hu; exact actFlat_one [a] u (by simpa [actFlat] using hu))
      clear hBb
      go_region_held3 (fun w' => w'.cell? ⟨W.heap.size, 0, none⟩ = some (.bool a.put) ∧ w'.cell? ⟨W.heap.size, 1, none⟩ = some (.int .i64 a.prev) ∧ w'.cell? ⟨W.heap.size, 2, none⟩ = some (.int .i64 a.term) ∧ w'.cell? ⟨W.heap.size, 3, none⟩ = some (.slice a.X a.n a.c))
        (first | exact hS0.out | exact hS4.out | exact hS5.out | exact hS6.out | go_keep)
        (first
          | (refine E22.step2 rfl (.tmp 17) (.tmp 18) rfl (.slice (some ⟨w1.heap.size, 0, none⟩) 0 0) X n c rfl rfl w1.heap.size 0 [] (actFlat l) n _ (Nat.zero_add _) (List.nil_append _) hOa.out hfl (HSl.out.src (HKa.out)) (actFlat_one l) (by omega) (by unfold maxLen; omega) (by first | omega | (simp; done) | (simp; omega)) ?_
             intro A1 d1 w4 ho4 hg4 _
             have HO4 := hid ho4
             have hk4 : Keep (fun i => w1.heap.size ≤ i) w1 w4 := (HKa.out.wide (fun _ _ f => f.elim)).grown hg4 (fun g e hl => by simp [Value.ownBlock] at e; omega)
             have HK4 := hid hk4
             have hSa : Hid (0 < 1 → ∃ ad, (some ⟨w4.heap.size, 0, none⟩ : Option Addr) = some ad ∧ ∀ j u, (a.cells)[j]? = some u → (w4.alloc (.cells #[.bool a.put, .int .i64 a.prev, .int .i64 a.term, .slice a.X a.n a.c] 33)).cell? (ad.add j) = some u) := hid (fun _ => ⟨_, rfl, src_new (w := w4) rfl⟩)
             have hS4 : Hid (w4.cell? ⟨W.heap.size, 0, none⟩ = some (.bool a.put) ∧ w4.cell? ⟨W.heap.size, 1, none⟩ = some (.int .i64 a.prev) ∧ w4.cell? ⟨W.heap.size, 2, none⟩ = some (.int .i64 a.term) ∧ w4.cell? ⟨W.heap.size, 3, none⟩ = some (.slice a.X a.n a.c)) := hid ⟨(HB1.out.keep hk4 (by have := HB1.out.lt; omega)).at_ 0, (HB1.out.keep hk4 (by have := HB1.out.lt; omega)).at_ 1, (HB1.out.keep hk4 (by have := HB1.out.lt; omega)).at_ 2, (HB1.out.keep hk4 (by have := HB1.out.lt; omega)).at_ 3⟩
             have hc0 : w4.cell? ⟨W.heap.size, 0, none⟩ = some (.bool a.put) := (HB1.out.keep hk4 (by have := HB1.out.lt; omega)).at_ 0
             have hc1 : w4.cell? ⟨W.heap.size, 1, none⟩ = some (.int .i64 a.prev) := (HB1.out.keep hk4 (by have := HB1.out.lt; omega)).at_ 1
             have hc2 : w4.cell? ⟨W.heap.size, 2, none⟩ = some (.int .i64 a.term) := (HB1.out.keep hk4 (by have := HB1.out.lt; omega)).at_ 2
             have hc3 : w4.cell? ⟨W.heap.size, 3, none⟩ = some (.slice a.X a.n a.c) := (HB1.out.keep hk4 (by have := HB1.out.lt; omega)).at_ 3
             have hle4 : w1.heap.size ≤ w4.heap.size := hk4.size
             clear ho4 hg4 hk4)
          | (refine E22.step2 rfl (.tmp 19) (.tmp 21) rfl (.slice A1 n d1) (some ⟨w4.heap.size, 0, none⟩) 1 1 rfl rfl w1.heap.size n _ (a.cells) _ _ rfl rfl (World.ownsRow.alloc HO4.out (.cells #[.bool a.put, .int .i64 a.prev, .int .i64 a.term, .slice a.X a.n a.c] 33)) rfl (hSa.out) (hOne.out) (by omega) (by unfold maxLen; omega) (by first | omega | (simp; omega)) ?_
             intro A2 d2 w5 ho5 hg5 _
             have hk5 := (HK4.out.alloc (.cells #[.bool a.put, .int .i64 a.prev, .int .i64 a.term, .slice a.X a.n a.c] 33)).grown hg5 (fun g e _ => HO4.out.block g e)
             have hS5 : Hid (w5.cell? ⟨W.heap.size, 0, none⟩ = some (.bool a.put) ∧ w5.cell? ⟨W.heap.size, 1, none⟩ = some (.int .i64 a.prev) ∧ w5.cell? ⟨W.heap.size, 2, none⟩ = some (.int .i64 a.term) ∧ w5.cell? ⟨W.heap.size, 3, none⟩ = some (.slice a.X a.n a.c)) := hid ⟨(HB1.out.keep hk5 (by have := HB1.out.lt; omega)).at_ 0, (HB1.out.keep hk5 (by have := HB1.out.lt; omega)).at_ 1, (HB1.out.keep hk5 (by have := HB1.out.lt; omega)).at_ 2, (HB1.out.keep hk5 (by have := HB1.out.lt; omega)).at_ 3⟩
             have HO9 := hid ho5
             have HK9 := hid hk5
             have HS9 := hid (HSm.out _ _ _ ho5 hk5)
             clear ho5 hg5 hk5)
          | (refine E22.step2 rfl (.tmp 17) (.tmp 18) rfl (.slice (some ⟨w1.heap.size, 0, none⟩) 0 0) X n c rfl rfl w1.heap.size 0 [] (actFlat l) n _ (Nat.zero_add _) (List.nil_append _) hOb.out hfl (HSl.out.src (HKb.out)) (actFlat_one l) (by omega) (by unfold maxLen; omega) (by first | omega | (simp; done) | (simp; omega)) ?_
             intro A1 d1 w4b ho4 hg4 _
             have HO4b := hid ho4
             have hk4 : Keep (fun i => w1.heap.size ≤ i) w1 w4b := (HKb.out.wide (fun _ _ f => f.elim)).grown hg4 (fun g e hl => by simp [Value.ownBlock] at e; omega)
             have HK4b := hid hk4
             have hB4 := hid (HBb.out.keep (((Keep.refl (· = w1.heap.size) ((w1.alloc (.cells #[] 33)).alloc (.cells #[.bool a.put, .int .i64 a.prev, .int .i64 a.term, .slice a.X a.n a.c] 33)))).drew.grown hg4 (fun g e _ => by simp [Value.ownBlock] at e; omega)) (by omega))
             have hSb : Hid (0 < 1 → ∃ ad, (some ⟨w1.heap.size + 1, 0, none⟩ : Option Addr) = some ad ∧ ∀ j u, (a.cells)[j]? = some u → w4b.cell? (ad.add j) = some u) := hid (fun _ => ⟨_, rfl, src_blk hB4.out⟩)
             clear hB4
             have hS4 : Hid (w4b.cell? ⟨W.heap.size, 0, none⟩ = some (.bool a.put) ∧ w4b.cell? ⟨W.heap.size, 1, none⟩ = some (.int .i64 a.prev) ∧ w4b.cell? ⟨W.heap.size, 2, none⟩ = some (.int .i64 a.term) ∧ w4b.cell? ⟨W.heap.size, 3, none⟩ = some (.slice a.X a.n a.c)) := hid ⟨(HB1.out.keep hk4 (by have := HB1.out.lt; omega)).at_ 0, (HB1.out.keep hk4 (by have := HB1.out.lt; omega)).at_ 1, (HB1.out.keep hk4 (by have := HB1.out.lt; omega)).at_ 2, (HB1.out.keep hk4 (by have := HB1.out.lt; omega)).at_ 3⟩
             have hc0 : w4b.cell? ⟨W.heap.size, 0, none⟩ = some (.bool a.put) := (HB1.out.keep hk4 (by have := HB1.out.lt; omega)).at_ 0
             have hc1 : w4b.cell? ⟨W.heap.size, 1, none⟩ = some (.int .i64 a.prev) := (HB1.out.keep hk4 (by have := HB1.out.lt; omega)).at_ 1
             have hc2 : w4b.cell? ⟨W.heap.size, 2, none⟩ = some (.int .i64 a.term) := (HB1.out.keep hk4 (by have := HB1.out.lt; omega)).at_ 2
             have hc3 : w4b.cell? ⟨W.heap.size, 3, none⟩ = some (.slice a.X a.n a.c) := (HB1.out.keep hk4 (by have := HB1.out.lt; omega)).at_ 3
             have hle4 : w1.heap.size ≤ w4b.heap.size := hk4.size
             clear ho4 hg4 hk4)
          | (refine E22.step2 rfl (.tmp 19) (.tmp 21) rfl (.slice A1 n d1) (some ⟨w1.heap.size + 1, 0, none⟩) 1 1 rfl rfl w1.heap.size n _ (a.cells) _ _ rfl rfl HO4b.out rfl (hSb.out) (hOne.out) (by omega) (by unfold maxLen; omega) (by first | omega | (simp; omega)) ?_
             intro A2 d2 w5 ho5 hg5 _
             have hk5 := HK4b.out.grown hg5 (fun g e _ => HO4b.out.block g e)
             have hS5 : Hid (w5.cell? ⟨W.heap.size, 0, none⟩ = some (.bool a.put) ∧ w5.cell? ⟨W.heap.size, 1, none⟩ = some (.int .i64 a.prev) ∧ w5.cell? ⟨W.heap.size, 2, none⟩ = some (.int .i64 a.term) ∧ w5.cell? ⟨W.heap.size, 3, none⟩ = some (.slice a.X a.n a.c)) := hid ⟨(HB1.out.keep hk5 (by have := HB1.out.lt; omega)).at_ 0, (HB1.out.keep hk5 (by have := HB1.out.lt; omega)).at_ 1, (HB1.out.keep hk5 (by have := HB1.out.lt; omega)).at_ 2, (HB1.out.keep hk5 (by have := HB1.out.lt; omega)).at_ 3⟩
             have HO9 := hid ho5
             have HK9 := hid hk5
             have HS9 := hid (HSm.out _ _ _ ho5 hk5)
             clear ho5 hg5 hk5)
          | (refine E22.step2 rfl (.tmp 17) (.tmp 18) rfl (.slice (some ⟨w1.heap.size + 1, 0, none⟩) 0 0) X n c rfl rfl w1.heap.size 0 [] (actFlat l) n _ (Nat.zero_add _) (List.nil_append _) hOc.out hfl (HSl.out.src (HKc.out)) (actFlat_one l) (by omega) (by unfold maxLen; omega) (by first | omega | (simp; done) | (simp; omega)) ?_
             intro A1 d1 w4c ho4 hg4 _
             have HO4c := hid ho4
             have hk4 : Keep (fun i => w1.heap.size ≤ i) w1 w4c := (HKc.out.wide (fun _ _ f => f.elim)).grown hg4 (fun g e hl => by simp [Value.ownBlock] at e; omega)
             have HK4c := hid hk4
             have hB4 := hid (HBc.out.keep (((Keep.refl (· = w1.heap.size + 1) ((w1.alloc (.cells #[.bool a.put, .int .i64 a.prev, .int .i64 a.term, .slice a.X a.n a.c] 33)).alloc (.cells #[] 33)))).drew.grown hg4 (fun g e _ => by simp [Value.ownBlock] at e; omega)) (by omega))
             have hSc : Hid (0 < 1 → ∃ ad, (some ⟨w1.heap.size, 0, none⟩ : Option Addr) = some ad ∧ ∀ j u, (a.cells)[j]? = some u → w4c.cell? (ad.add j) = some u) := hid (fun _ => ⟨_, rfl, src_blk hB4.out⟩)
             clear hB4
             have hS4 : Hid (w4c.cell? ⟨W.heap.size, 0, none⟩ = some (.bool a.put) ∧ w4c.cell? ⟨W.heap.size, 1, none⟩ = some (.int .i64 a.prev) ∧ w4c.cell? ⟨W.heap.size, 2, none⟩ = some (.int .i64 a.term) ∧ w4c.cell? ⟨W.heap.size, 3, none⟩ = some (.slice a.X a.n a.c)) := hid ⟨(HB1.out.keep hk4 (by have := HB1.out.lt; omega)).at_ 0, (HB1.out.keep hk4 (by have := HB1.out.lt; omega)).at_ 1, (HB1.out.keep hk4 (by have := HB1.out.lt; omega)).at_ 2, (HB1.out.keep hk4 (by have := HB1.out.lt; omega)).at_ 3⟩
             have hc0 : w4c.cell? ⟨W.heap.size, 0, none⟩ = some (.bool a.put) := (HB1.out.keep hk4 (by have := HB1.out.lt; omega)).at_ 0
             have hc1 : w4c.cell? ⟨W.heap.size, 1, none⟩ = some (.int .i64 a.prev) := (HB1.out.keep hk4 (by have := HB1.out.lt; omega)).at_ 1
             have hc2 : w4c.cell? ⟨W.heap.size, 2, none⟩ = some (.int .i64 a.term) := (HB1.out.keep hk4 (by have := HB1.out.lt; omega)).at_ 2
             have hc3 : w4c.cell? ⟨W.heap.size, 3, none⟩ = some (.slice a.X a.n a.c) := (HB1.out.keep hk4 (by have := HB1.out.lt; omega)).at_ 3
             have hle4 : w1.heap.size ≤ w4c.heap.size := hk4.size
             clear ho4 hg4 hk4)
          | (refine E22.step2 rfl (.tmp 19) (.tmp 21) rfl (.slice A1 n d1) (some ⟨w1.heap.size, 0, none⟩) 1 1 rfl rfl w1.heap.size n _ (a.cells) _ _ rfl rfl HO4c.out rfl (hSc.out) (hOne.out) (by omega) (by unfold maxLen; omega) (by first | omega | (simp; omega)) ?_
             intro A2 d2 w5 ho5 hg5 _
             have hk5 := HK4c.out.grown hg5 (fun g e _ => HO4c.out.block g e)
             have hS5 : Hid (w5.cell? ⟨W.heap.size, 0, none⟩ = some (.bool a.put) ∧ w5.cell? ⟨W.heap.size, 1, none⟩ = some (.int .i64 a.prev) ∧ w5.cell? ⟨W.heap.size, 2, none⟩ = some (.int .i64 a.term) ∧ w5.cell? ⟨W.heap.size, 3, none⟩ = some (.slice a.X a.n a.c)) := hid ⟨(HB1.out.keep hk5 (by have := HB1.out.lt; omega)).at_ 0, (HB1.out.keep hk5 (by have := HB1.out.lt; omega)).at_ 1, (HB1.out.keep hk5 (by have := HB1.out.lt; omega)).at_ 2, (HB1.out.keep hk5 (by have := HB1.out.lt; omega)).at_ 3⟩
             have HO9 := hid ho5
             have HK9 := hid hk5
             have HS9 := hid (HSm.out _ _ _ ho5 hk5)
             clear ho5 hg5 hk5)
          | (go_at_call 12; (with_reducible refine HS9.out.mono ?_); rintro e w6 ⟨rfl, hk6⟩
             have HK6 := hid (HK9.out.then hk6)
             have hS6 : Hid (w6.cell? ⟨W.heap.size, 0, none⟩ = some (.bool a.put) ∧ w6.cell? ⟨W.heap.size, 1, none⟩ = some (.int .i64 a.prev) ∧ w6.cell? ⟨W.heap.size, 2, none⟩ = some (.int .i64 a.term) ∧ w6.cell? ⟨W.heap.size, 3, none⟩ = some (.slice a.X a.n a.c)) := hid ⟨(HB1.out.keep HK6.out (by have := HB1.out.lt; omega)).at_ 0, (HB1.out.keep HK6.out (by have := HB1.out.lt; omega)).at_ 1, (HB1.out.keep HK6.out (by have := HB1.out.lt; omega)).at_ 2, (HB1.out.keep HK6.out (by have := HB1.out.lt; omega)).at_ 3⟩
             clear hk6 HS9))
      all_goals
        have HKs := hid (HK1.out.then HK6.out.own)
        have HB6 := hid (HB1.out.keep HK6.out (by have := HB1.out.lt; omega))
        have HPa := hid (HP.out _ HKs.out hT hL)
        go_wp2_with (first
          | (go_at_call 13; (with_reducible refine HPa.out.mono ?_); rintro e w7 ⟨lb, X4, n4, c4, rfl, hB4, hk4, hlb⟩
             have hn4 := hid hB4.len
             obtain ⟨r, hR, hX⟩ := hB4.open_
             have HR := hid hR
             have HX := hid hX
             have HK7 := hid (HKs.out.then hk4)
             have hB7 := HB6.out.keep hk4 (fun f => f)
             have b1 : w7.cell? ⟨W.heap.size, 1, none⟩ = some (.int .i64 a.prev) := hB7.at_ 1
             have b2 : w7.cell? ⟨W.heap.size, 2, none⟩ = some (.int .i64 a.term) := hB7.at_ 2
             have b3 : w7.cell? ⟨W.heap.size, 3, none⟩ = some (.slice a.X a.n a.c) := hB7.at_ 3
             have HB7 := hid hB7
             have hsz := hid hk4.size
             have HE7 := hid ((Ha.out.same HKs.out).old.same hk4)
             have HAf := hid (after_r w7 w6.heap.size lb r hk4.size _ hR (by omega) a.es a.n a.c a.X HE7.out (by omega) a.prev a.term)
             rw [hok, putL_no hok] at HAf
             have hbs : W.heap.size < w6.heap.size := HB6.out.lt
             clear hB4 hk4 hR hX hB7 HPa)
          | (go_at_call 16; (with_reducible refine HAf.out.mono ?_); rintro e w8 ⟨rfl, r8, hR8, hk8, hr8⟩
             have HR8 := hid hR8
             have HX8 := hid (HX.out.keep hk8 (fun _ _ hs => hs))
             have HK8 := hid (HK7.out.trans hk8 (fun i hi hs => by have := (HR.out.lt i hs).2; have := HKs.out.size; omega))
             have hB8 := HB7.out.keep hk8 (fun hs => by have := (HR.out.lt _ hs).2; omega)
             have HB8 := hid hB8
             have HE8 := hid (HE7.out.keep hk8 (fun i _ hs => (HR.out.lt i hs).2))
             have hsz8 := hid hk8.size
             have HRe := hid (rest_at w8 _ _ _ _ _ _ _ _ hR8 HX8.out (by omega))
             clear hR8 hk8 hr8 hB8 HAf)
          | (go_at_call 19; (with_reducible refine HRe.out.mono ?_); rintro e w9 ⟨rfl, hk9⟩
             have HK9b := hid (HK8.out.then hk9)
             clear hk9 HRe))
        go_ret
        exact ⟨rfl, HK9b.out⟩
    | true =>
      have hp := putOk_parts hok
      have htk := putL_take hok
      have hlq := putL_len q a.prev a.term (a.es.map En.pe)
      rw [List.length_map] at hlq
      have han2 := Ha.out.len
      have Hlq := hid (show (putL id q a.prev a.term (a.es.map En.pe)).length ≤ 240 by omega)
      have hch2 := hid (putL_chain hch.out a.prev a.term (a.es.map En.pe))
      have hag := hid (putL_again hok)
      have hp0 := hp.1
      have Htk := hid htk
      have Hp := hid hp
      clear htk hp
      go_enter Try.func6, Try.ntmps6
      go_wp2_with (first
        | (go_at_call 11; (with_reducible refine (wakes_any _).mono ?_); rintro e w1 ⟨rfl, hk1⟩
           have HK1 := hid (HK0.out.then hk1)
           have HB1 := hid (HB0.out.keep hk1 (fun f => f))
           clear hk1))
      have HSl := hid (HSl0.out.same HK1.out)
      have c0 : w1.cell? ⟨W.heap.size, 0, none⟩ = some (.bool a.put) := HB1.out.at_ 0
      have c1 : w1.cell? ⟨W.heap.size, 1, none⟩ = some (.int .i64 a.prev) := HB1.out.at_ 1
      have c2 : w1.cell? ⟨W.heap.size, 2, none⟩ = some (.int .i64 a.term) := HB1.out.at_ 2
      have c3 : w1.cell? ⟨W.heap.size, 3, none⟩ = some (.slice a.X a.n a.c) := HB1.out.at_ 3
      have hlt : W.heap.size < w1.heap.size := HB1.out.lt
      have HSm := hid (fun w5 A2 d2 (ho : Own w5 w1.heap.size 33 4 (.slice A2 (n + 1) d2) (n + 1) (actFlat l ++ a.cells)) (hk : Keep (fun i => w1.heap.size ≤ i) w1 w5) => HS.out w5 A2 d2 (ho.rebase (fun _ _ => Nat.zero_le _)) (HK1.out.then hk.own))
      rw [hsm] at HSm
      have hS0 : Hid (w1.drew.cell? ⟨W.heap.size, 0, none⟩ = some (.bool a.put) ∧ w1.drew.cell? ⟨W.heap.size, 1, none⟩ = some (.int .i64 a.prev) ∧ w1.drew.cell? ⟨W.heap.size, 2, none⟩ = some (.int .i64 a.term) ∧ w1.drew.cell? ⟨W.heap.size, 3, none⟩ = some (.slice a.X a.n a.c)) := hid ⟨HB1.out.at_ 0, HB1.out.at_ 1, HB1.out.at_ 2, HB1.out.at_ 3⟩
      have hOa := hid (World.ownsRow_made (base := w1.heap.size) (e := 33) (size := 4) w1 #[] 0 (Nat.le_refl _) (by simp [maxLen]) rfl)
      have hOb := hid (World.ownsRow.alloc hOa.out (.cells #[.bool a.put, .int .i64 a.prev, .int .i64 a.term, .slice a.X a.n a.c] 33))
      have hOc := hid (World.ownsRow_made (base := w1.heap.size) (e := 33) (size := 4) (w1.alloc (.cells #[.bool a.put, .int .i64 a.prev, .int .i64 a.term, .slice a.X a.n a.c] 33)) #[] 0 (by simp) (by simp [maxLen]) rfl)
      rw [World.size_alloc] at hOc
      have hBb := (Blk.made (w1.alloc (.cells #[] 33)) 33 #[.bool a.put, .int .i64 a.prev, .int .i64 a.term, .slice a.X a.n a.c])
      rw [World.size_alloc] at hBb
      have HBb := hid hBb
      have HBc := hid ((Blk.made w1 33 #[.bool a.put, .int .i64 a.prev, .int .i64 a.term, .slice a.X a.n a.c]).alloc (.cells #[] 33))
      have HKa := hid (((Keep.refl (fun _ => False) w1).alloc (.cells #[] 33)).drew)
      have HKb := hid ((((Keep.refl (fun _ => False) w1).alloc (.cells #[] 33)).alloc (.cells #[.bool a.put, .int .i64 a.prev, .int .i64 a.term, .slice a.X a.n a.c] 33)).drew)
      have HKc := hid ((((Keep.refl (fun _ => False) w1).alloc (.cells #[.bool a.put, .int .i64 a.prev, .int .i64 a.term, .slice a.X a.n a.c] 33)).alloc (.cells #[] 33)).drew)
      have hOne : Hid (∀ u ∈ a.cells, u.oneCell' = true) := hid (by intro u hu; exact actFlat_one [a] u (by simpa [actFlat] using hu))
      clear hBb
      go_region_held3 (fun w' => w'.cell? ⟨W.heap.size, 0, none⟩ = some (.bool a.put) ∧ w'.cell? ⟨W.heap.size, 1, none⟩ = some (.int .i64 a.prev) ∧ w'.cell? ⟨W.heap.size, 2, none⟩ = some (.int .i64 a.term) ∧ w'.cell? ⟨W.heap.size, 3, none⟩ = some (.slice a.X a.n a.c))
        (first | exact hS0.out | exact hS4.out | exact hS5.out | exact hS6.out | go_keep)
        (first
          | (refine E22.step2 rfl (.tmp 17) (.tmp 18) rfl (.slice (some ⟨w1.heap.size, 0, none⟩) 0 0) X n c rfl rfl w1.heap.size 0 [] (actFlat l) n _ (Nat.zero_add _) (List.nil_append _) hOa.out hfl (HSl.out.src (HKa.out)) (actFlat_one l) (by omega) (by unfold maxLen; omega) (by first | omega | (simp; done) | (simp; omega)) ?_
             intro A1 d1 w4 ho4 hg4 _
             have HO4 := hid ho4
             have hk4 : Keep (fun i => w1.heap.size ≤ i) w1 w4 := (HKa.out.wide (fun _ _ f => f.elim)).grown hg4 (fun g e hl => by simp [Value.ownBlock] at e; omega)
             have HK4 := hid hk4
             have hSa : Hid (0 < 1 → ∃ ad, (some ⟨w4.heap.size, 0, none⟩ : Option Addr) = some ad ∧ ∀ j u, (a.cells)[j]? = some u → (w4.alloc (.cells #[.bool a.put, .int .i64 a.prev, .int .i64 a.term, .slice a.X a.n a.c] 33)).cell? (ad.add j) = some u) := hid (fun _ => ⟨_, rfl, src_new (w := w4) rfl⟩)
             have hS4 : Hid (w4.cell? ⟨W.heap.size, 0, none⟩ = some (.bool a.put) ∧ w4.cell? ⟨W.heap.size, 1, none⟩ = some (.int .i64 a.prev) ∧ w4.cell? ⟨W.heap.size, 2, none⟩ = some (.int .i64 a.term) ∧ w4.cell? ⟨W.heap.size, 3, none⟩ = some (.slice a.X a.n a.c)) := hid ⟨(HB1.out.keep hk4 (by have := HB1.out.lt; omega)).at_ 0, (HB1.out.keep hk4 (by have := HB1.out.lt; omega)).at_ 1, (HB1.out.keep hk4 (by have := HB1.out.lt; omega)).at_ 2, (HB1.out.keep hk4 (by have := HB1.out.lt; omega)).at_ 3⟩
             have hc0 : w4.cell? ⟨W.heap.size, 0, none⟩ = some (.bool a.put) := (HB1.out.keep hk4 (by have := HB1.out.lt; omega)).at_ 0
             have hc1 : w4.cell? ⟨W.heap.size, 1, none⟩ = some (.int .i64 a.prev) := (HB1.out.keep hk4 (by have := HB1.out.lt; omega)).at_ 1
             have hc2 : w4.cell? ⟨W.heap.size, 2, none⟩ = some (.int .i64 a.term) := (HB1.out.keep hk4 (by have := HB1.out.lt; omega)).at_ 2
             have hc3 : w4.cell? ⟨W.heap.size, 3, none⟩ = some (.slice a.X a.n a.c) := (HB1.out.keep hk4 (by have := HB1.out.lt; omega)).at_ 3
             have hle4 : w1.heap.size ≤ w4.heap.size := hk4.size
             clear ho4 hg4 hk4)
          | (refine E22.step2 rfl (.tmp 19) (.tmp 21) rfl (.slice A1 n d1) (some ⟨w4.heap.size, 0, none⟩) 1 1 rfl rfl w1.heap.size n _ (a.cells) _ _ rfl rfl (World.ownsRow.alloc HO4.out (.cells #[.bool a.put, .int .i64 a.prev, .int .i64 a.term, .slice a.X a.n a.c] 33)) rfl (hSa.out) (hOne.out) (by omega) (by unfold maxLen; omega) (by first | omega | (simp; omega)) ?_
             intro A2 d2 w5 ho5 hg5 _
             have hk5 := (HK4.out.alloc (.cells #[.bool a.put, .int .i64 a.prev, .int .i64 a.term, .slice a.X a.n a.c] 33)).grown hg5 (fun g e _ => HO4.out.block g e)
             have hS5 : Hid (w5.cell? ⟨W.heap.size, 0, none⟩ = some (.bool a.put) ∧ w5.cell? ⟨W.heap.size, 1, none⟩ = some (.int .i64 a.prev) ∧ w5.cell? ⟨W.heap.size, 2, none⟩ = some (.int .i64 a.term) ∧ w5.cell? ⟨W.heap.size, 3, none⟩ = some (.slice a.X a.n a.c)) := hid ⟨(HB1.out.keep hk5 (by have := HB1.out.lt; omega)).at_ 0, (HB1.out.keep hk5 (by have := HB1.out.lt; omega)).at_ 1, (HB1.out.keep hk5 (by have := HB1.out.lt; omega)).at_ 2, (HB1.out.keep hk5 (by have := HB1.out.lt; omega)).at_ 3⟩
             have HO9 := hid ho5
             have HK9 := hid hk5
             have HS9 := hid (HSm.out _ _ _ ho5 hk5)
             clear ho5 hg5 hk5)
          | (refine E22.step2 rfl (.tmp 17) (.tmp 18) rfl (.slice (some ⟨w1.heap.size, 0, none⟩) 0 0) X n c rfl rfl w1.heap.size 0 [] (actFlat l) n _ (Nat.zero_add _) (List.nil_append _) hOb.out hfl (HSl.out.src (HKb.out)) (actFlat_one l) (by omega) (by unfold maxLen; omega) (by first | omega | (simp; done) | (simp; omega)) ?_
             intro A1 d1 w4b ho4 hg4 _
             have HO4b := hid ho4
             have hk4 : Keep (fun i => w1.heap.size ≤ i) w1 w4b := (HKb.out.wide (fun _ _ f => f.elim)).grown hg4 (fun g e hl => by simp [Value.ownBlock] at e; omega)
             have HK4b := hid hk4
             have hB4 := hid (HBb.out.keep (((Keep.refl (· = w1.heap.size) ((w1.alloc (.cells #[] 33)).alloc (.cells #[.bool a.put, .int .i64 a.prev, .int .i64 a.term, .slice a.X a.n a.c] 33)))).drew.grown hg4 (fun g e _ => by simp [Value.ownBlock] at e; omega)) (by omega))
             have hSb : Hid (0 < 1 → ∃ ad, (some ⟨w1.heap.size + 1, 0, none⟩ : Option Addr) = some ad ∧ ∀ j u, (a.cells)[j]? = some u → w4b.cell? (ad.add j) = some u) := hid (fun _ => ⟨_, rfl, src_blk hB4.out⟩)
             clear hB4
             have hS4 : Hid (w4b.cell? ⟨W.heap.size, 0, none⟩ = some (.bool a.put) ∧ w4b.cell? ⟨W.heap.size, 1, none⟩ = some (.int .i64 a.prev) ∧ w4b.cell? ⟨W.heap.size, 2, none⟩ = some (.int .i64 a.term) ∧ w4b.cell? ⟨W.heap.size, 3, none⟩ = some (.slice a.X a.n a.c)) := hid ⟨(HB1.out.keep hk4 (by have := HB1.out.lt; omega)).at_ 0, (HB1.out.keep hk4 (by have := HB1.out.lt; omega)).at_ 1, (HB1.out.keep hk4 (by have := HB1.out.lt; omega)).at_ 2, (HB1.out.keep hk4 (by have := HB1.out.lt; omega)).at_ 3⟩
             have hc0 : w4b.cell? ⟨W.heap.size, 0, none⟩ = some (.bool a.put) := (HB1.out.keep hk4 (by have := HB1.out.lt; omega)).at_ 0
             have hc1 : w4b.cell? ⟨W.heap.size, 1, none⟩ = some (.int .i64 a.prev) := (HB1.out.keep hk4 (by have := HB1.out.lt; omega)).at_ 1
             have hc2 : w4b.cell? ⟨W.heap.size, 2, none⟩ = some (.int .i64 a.term) := (HB1.out.keep hk4 (by have := HB1.out.lt; omega)).at_ 2
             have hc3 : w4b.cell? ⟨W.heap.size, 3, none⟩ = some (.slice a.X a.n a.c) := (HB1.out.keep hk4 (by have := HB1.out.lt; omega)).at_ 3
             have hle4 : w1.heap.size ≤ w4b.heap.size := hk4.size
             clear ho4 hg4 hk4)
          | (refine E22.step2 rfl (.tmp 19) (.tmp 21) rfl (.slice A1 n d1) (some ⟨w1.heap.size + 1, 0, none⟩) 1 1 rfl rfl w1.heap.size n _ (a.cells) _ _ rfl rfl HO4b.out rfl (hSb.out) (hOne.out) (by omega) (by unfold maxLen; omega) (by first | omega | (simp; omega)) ?_
             intro A2 d2 w5 ho5 hg5 _
             have hk5 := HK4b.out.grown hg5 (fun g e _ => HO4b.out.block g e)
             have hS5 : Hid (w5.cell? ⟨W.heap.size, 0, none⟩ = some (.bool a.put) ∧ w5.cell? ⟨W.heap.size, 1, none⟩ = some (.int .i64 a.prev) ∧ w5.cell? ⟨W.heap.size, 2, none⟩ = some (.int .i64 a.term) ∧ w5.cell? ⟨W.heap.size, 3, none⟩ = some (.slice a.X a.n a.c)) := hid ⟨(HB1.out.keep hk5 (by have := HB1.out.lt; omega)).at_ 0, (HB1.out.keep hk5 (by have := HB1.out.lt; omega)).at_ 1, (HB1.out.keep hk5 (by have := HB1.out.lt; omega)).at_ 2, (HB1.out.keep hk5 (by have := HB1.out.lt; omega)).at_ 3⟩
             have HO9 := hid ho5
             have HK9 := hid hk5
             have HS9 := hid (HSm.out _ _ _ ho5 hk5)
             clear ho5 hg5 hk5)
          | (refine E22.step2 rfl (.tmp 17) (.tmp 18) rfl (.slice (some ⟨w1.heap.size + 1, 0, none⟩) 0 0) X n c rfl rfl w1.heap.size 0 [] (actFlat l) n _ (Nat.zero_add _) (List.nil_append _) hOc.out hfl (HSl.out.src (HKc.out)) (actFlat_one l) (by omega) (by unfold maxLen; omega) (by first | omega | (simp; done) | (simp; omega)) ?_
             intro A1 d1 w4c ho4 hg4 _
             have HO4c := hid ho4
             have hk4 : Keep (fun i => w1.heap.size ≤ i) w1 w4c := (HKc.out.wide (fun _ _ f => f.elim)).grown hg4 (fun g e hl => by simp [Value.ownBlock] at e; omega)
             have HK4c := hid hk4
             have hB4 := hid (HBc.out.keep (((Keep.refl (· = w1.heap.size + 1) ((w1.alloc (.cells #[.bool a.put, .int .i64 a.prev, .int .i64 a.term, .slice a.X a.n a.c] 33)).alloc (.cells #[] 33)))).drew.grown hg4 (fun g e _ => by simp [Value.ownBlock] at e; omega)) (by omega))
             have hSc : Hid (0 < 1 → ∃ ad, (some ⟨w1.heap.size, 0, none⟩ : Option Addr) = some ad ∧ ∀ j u, (a.cells)[j]? = some u → w4c.cell? (ad.add j) = some u) := hid (fun _ => ⟨_, rfl, src_blk hB4.out⟩)
             clear hB4
             have hS4 : Hid (w4c.cell? ⟨W.heap.size, 0, none⟩ = some (.bool a.put) ∧ w4c.cell? ⟨W.heap.size, 1, none⟩ = some (.int .i64 a.prev) ∧ w4c.cell? ⟨W.heap.size, 2, none⟩ = some (.int .i64 a.term) ∧ w4c.cell? ⟨W.heap.size, 3, none⟩ = some (.slice a.X a.n a.c)) := hid ⟨(HB1.out.keep hk4 (by have := HB1.out.lt; omega)).at_ 0, (HB1.out.keep hk4 (by have := HB1.out.lt; omega)).at_ 1, (HB1.out.keep hk4 (by have := HB1.out.lt; omega)).at_ 2, (HB1.out.keep hk4 (by have := HB1.out.lt; omega)).at_ 3⟩
             have hc0 : w4c.cell? ⟨W.heap.size, 0, none⟩ = some (.bool a.put) := (HB1.out.keep hk4 (by have := HB1.out.lt; omega)).at_ 0
             have hc1 : w4c.cell? ⟨W.heap.size, 1, none⟩ = some (.int .i64 a.prev) := (HB1.out.keep hk4 (by have := HB1.out.lt; omega)).at_ 1
             have hc2 : w4c.cell? ⟨W.heap.size, 2, none⟩ = some (.int .i64 a.term) := (HB1.out.keep hk4 (by have := HB1.out.lt; omega)).at_ 2
             have hc3 : w4c.cell? ⟨W.heap.size, 3, none⟩ = some (.slice a.X a.n a.c) := (HB1.out.keep hk4 (by have := HB1.out.lt; omega)).at_ 3
             have hle4 : w1.heap.size ≤ w4c.heap.size := hk4.size
             clear ho4 hg4 hk4)
          | (refine E22.step2 rfl (.tmp 19) (.tmp 21) rfl (.slice A1 n d1) (some ⟨w1.heap.size, 0, none⟩) 1 1 rfl rfl w1.heap.size n _ (a.cells) _ _ rfl rfl HO4c.out rfl (hSc.out) (hOne.out) (by omega) (by unfold maxLen; omega) (by first | omega | (simp; omega)) ?_
             intro A2 d2 w5 ho5 hg5 _
             have hk5 := HK4c.out.grown hg5 (fun g e _ => HO4c.out.block g e)
             have hS5 : Hid (w5.cell? ⟨W.heap.size, 0, none⟩ = some (.bool a.put) ∧ w5.cell? ⟨W.heap.size, 1, none⟩ = some (.int .i64 a.prev) ∧ w5.cell? ⟨W.heap.size, 2, none⟩ = some (.int .i64 a.term) ∧ w5.cell? ⟨W.heap.size, 3, none⟩ = some (.slice a.X a.n a.c)) := hid ⟨(HB1.out.keep hk5 (by have := HB1.out.lt; omega)).at_ 0, (HB1.out.keep hk5 (by have := HB1.out.lt; omega)).at_ 1, (HB1.out.keep hk5 (by have := HB1.out.lt; omega)).at_ 2, (HB1.out.keep hk5 (by have := HB1.out.lt; omega)).at_ 3⟩
             have HO9 := hid ho5
             have HK9 := hid hk5
             have HS9 := hid (HSm.out _ _ _ ho5 hk5)
             clear ho5 hg5 hk5)
          | (go_at_call 12; (with_reducible refine HS9.out.mono ?_); rintro e w6 ⟨rfl, hk6⟩
             have HK6 := hid (HK9.out.then hk6)
             have hS6 : Hid (w6.cell? ⟨W.heap.size, 0, none⟩ = some (.bool a.put) ∧ w6.cell? ⟨W.heap.size, 1, none⟩ = some (.int .i64 a.prev) ∧ w6.cell? ⟨W.heap.size, 2, none⟩ = some (.int .i64 a.term) ∧ w6.cell? ⟨W.heap.size, 3, none⟩ = some (.slice a.X a.n a.c)) := hid ⟨(HB1.out.keep HK6.out (by have := HB1.out.lt; omega)).at_ 0, (HB1.out.keep HK6.out (by have := HB1.out.lt; omega)).at_ 1, (HB1.out.keep HK6.out (by have := HB1.out.lt; omega)).at_ 2, (HB1.out.keep HK6.out (by have := HB1.out.lt; omega)).at_ 3⟩
             clear hk6 HS9))
      all_goals
        have HKs := hid (HK1.out.then HK6.out.own)
        have HB6 := hid (HB1.out.keep HK6.out (by have := HB1.out.lt; omega))
        have HPa := hid (HP.out _ HKs.out hT hL)
        go_wp2_with (first
          | (go_at_call 13; (with_reducible refine HPa.out.mono ?_); rintro e w7 ⟨lb, X4, n4, c4, rfl, hB4, hk4, hlb⟩
             have hn4 := hid hB4.len
             obtain ⟨r, hR, hX⟩ := hB4.open_
             have HR := hid hR
             have HX := hid hX
             have HK7 := hid (HKs.out.then hk4)
             have hB7 := HB6.out.keep hk4 (fun f => f)
             have b1 : w7.cell? ⟨W.heap.size, 1, none⟩ = some (.int .i64 a.prev) := hB7.at_ 1
             have b2 : w7.cell? ⟨W.heap.size, 2, none⟩ = some (.int .i64 a.term) := hB7.at_ 2
             have b3 : w7.cell? ⟨W.heap.size, 3, none⟩ = some (.slice a.X a.n a.c) := hB7.at_ 3
             have HB7 := hid hB7
             have hsz := hid hk4.size
             have HE7 := hid ((Ha.out.same HKs.out).old.same hk4)
             have HAf := hid (after_r w7 w6.heap.size lb r hk4.size _ hR (by omega) a.es a.n a.c a.X HE7.out (by omega) a.prev a.term)
             rw [hok, putE_ok Hp.out.2.2.2.2.2.1] at HAf
             have hbs : W.heap.size < w6.heap.size := HB6.out.lt
             clear hB4 hk4 hR hX hB7 HPa)
          | (go_at_call 16; (with_reducible refine HAf.out.mono ?_); rintro e w8 ⟨rfl, r8, hR8, hk8, hr8⟩
             have HR8 := hid hR8
             have HX8 := hid (HX.out.keep hk8 (fun _ _ hs => hs))
             have HK8 := hid (HK7.out.trans hk8 (fun i hi hs => by have := (HR.out.lt i hs).2; have := HKs.out.size; omega))
             have hB8 := HB7.out.keep hk8 (fun hs => by have := (HR.out.lt _ hs).2; omega)
             have HB8 := hid hB8
             have HE8 := hid (HE7.out.keep hk8 (fun i _ hs => (HR.out.lt i hs).2))
             have hsz8 := hid hk8.size
             have b1 : w8.cell? ⟨W.heap.size, 1, none⟩ = some (.int .i64 a.prev) := hB8.at_ 1
             have HSl8 := hid (slice_at w8 _ _ _ hR8.log (by omega) 1 1000)
             rw [fromQ_all (by omega)] at HSl8
             clear hR8 hk8 hr8 hB8 HAf)
          | (go_at_call 20; (with_reducible refine HSl8.out.mono ?_); rintro e w9 ⟨Y, p, d, l', rfl, hl', hm', hk9⟩
             have HY := hid (show LsQ w9 (· < w8.heap.size) Y p d _ from ⟨l', hl', hm'⟩)
             have hpl := hid HY.out.len
             have hpb : p ≤ 240 := by have := hpl.out; have := Hlq.out; omega
             have HK9b := hid (HK8.out.then hk9)
             have hsz9 := hid hk9.size
             have HR9 := hid (HR8.out.same hk9)
             have HX9 := hid (HX8.out.same hk9)
             have HE9 := hid (HE8.out.same hk9)
             have hB9 := HB8.out.keep hk9 (fun f => f)
             have d1 : w9.cell? ⟨W.heap.size, 1, none⟩ = some (.int .i64 a.prev) := hB9.at_ 1
             have d3 : w9.cell? ⟨W.heap.size, 3, none⟩ = some (.slice a.X a.n a.c) := hB9.at_ 3
             have HB9 := hid hB9
             have hp1 : a.prev ≤ (p : Int) := by have := hpl.out; have := Htk.out.2.2; omega
             have hp4 : a.prev ≤ (n4 : Int) := by have := hn4.out; have := Hp.out.2.2.2.1; omega
             clear hl' hm' hk9 hB9 HSl8))
        have hn5 := hn4.out
        have hcapY : a.prev ≤ (d : Int) := by have := HY.out.cap; omega
        have hcapX : a.prev ≤ (c4 : Int) := by have := HX9.out.cap; omega
        have hw : IntKind.i64.wrap (a.prev + 1) = a.prev + 1 := IntWalk.i64_in _ (by have := hpl.out; omega)
        have hesl := hid (show (a.es.map En.pe).length = a.n by rw [List.length_map, Ha.out.len])
        have hfq := hid (show fromQ (putL id q a.prev a.term (a.es.map En.pe)) (a.prev + 1) (a.n : Int) = a.es.map En.pe by
          have h1 := fromQ_put (q' := putL id q a.prev a.term (a.es.map En.pe)) (prev := a.prev) (es := a.es.map En.pe) hp0 Htk.out.2.1
          rwa [hesl.out] at h1)
        have HC1 := hid (slice_at w9.drew _ _ _ (HR9.out.same (Keep.refl _ w9).drew).log (by omega) (a.prev + 1) a.n)
        rw [hfq.out] at HC1
        have HXd := hid (HX9.out.take a.prev.toNat (by omega))
        have HYd := hid (HY.out.take a.prev.toNat (by omega))
        rw [Htk.out.1] at HYd
        go_region_held3 (fun V => V.cell? ⟨W.heap.size, 1, none⟩ = some (.int .i64 a.prev) ∧ V.cell? ⟨W.heap.size, 3, none⟩ = some (.slice a.X a.n a.c))
          (first | exact ⟨d1, d3⟩ | exact hS10.out | exact hS11.out | exact hS12.out | go_keep)
          (first
            | (go_at_call 20; (with_reducible refine HC1.out.mono ?_); rintro e w10 ⟨Y2, p2, dd2, l2, rfl, hl2, hm2, hk10⟩
               have hp2 : p2 = a.n := by rw [← hl2.len, ← hesl.out, ← hm2, List.length_map]
               subst hp2
               have HK10 := hid ((((Keep.refl (fun _ => False) w9).drew).then hk10))
               have hS10 : Hid (w10.cell? ⟨W.heap.size, 1, none⟩ = some (.int .i64 a.prev) ∧ w10.cell? ⟨W.heap.size, 3, none⟩ = some (.slice a.X a.n a.c)) := hid ⟨(HB9.out.keep HK10.out (fun f => f)).at_ 1, (HB9.out.keep HK10.out (fun f => f)).at_ 3⟩
               have HC2 := hid (same_at w10 _ _ _ _ _ _ _ _ _ _ (show LsQ w10 _ Y2 _ dd2 _ from ⟨l2, hl2, hm2⟩) (show LsQ w10 _ a.X a.n a.c _ from ⟨a.es, HE9.out.same HK10.out, rfl⟩) (by omega) (by omega))
               rw [decide_eq_true rfl] at HC2
               clear hl2 hm2 hk10 HC1)
            | (go_at_call 21; (with_reducible refine HC2.out.mono ?_); rintro e w11 ⟨rfl, hk11⟩
               have HK11 := hid (HK10.out.then hk11)
               have hS11 : Hid (w11.cell? ⟨W.heap.size, 1, none⟩ = some (.int .i64 a.prev) ∧ w11.cell? ⟨W.heap.size, 3, none⟩ = some (.slice a.X a.n a.c)) := hid ⟨(HB9.out.keep HK11.out (fun f => f)).at_ 1, (HB9.out.keep HK11.out (fun f => f)).at_ 3⟩
               have HC3 := hid (same_at w11 _ _ _ _ _ _ _ _ _ _ (HYd.out.same HK11.out) (HXd.out.same HK11.out) (by omega) (by omega))
               rw [decide_eq_true rfl] at HC3
               clear hk11 HC2)
            | (go_at_call 21; (with_reducible refine HC3.out.mono ?_); rintro e w12 ⟨rfl, hk12⟩
               have HK12 := hid (HK11.out.then hk12)
               have hS12 : Hid (w12.cell? ⟨W.heap.size, 1, none⟩ = some (.int .i64 a.prev) ∧ w12.cell? ⟨W.heap.size, 3, none⟩ = some (.slice a.X a.n a.c)) := hid ⟨(HB9.out.keep HK12.out (fun f => f)).at_ 1, (HB9.out.keep HK12.out (fun f => f)).at_ 3⟩
               clear hk12 HC3))
        go_wp2_with fail
        have HCh := hid (fun k e => floor_le (q := putL id q a.prev a.term (a.es.map En.pe)) (k := k) (e := e) hch2.out)
        go_loopw [10, 95] (fun t i wr => ∃ k : Nat, ∃ T : Int, k ≤ p ∧ i = .int .i64 k ∧ t = .int .i64 T ∧ Hid (T = floorT id 0 (putL id q a.prev a.term (a.es.map En.pe)) k) ∧ Hid (Same w9 wr)) (fun _ i _ => p - (RowKit.intOf i).toNat)
        case atStart => exact ⟨0, 0, by omega, rfl, rfl, hid rfl, HK12⟩
        case round =>
          obtain ⟨k, T, hk, rfl, rfl, HF, HK⟩ := hrel
          by_cases hkp : k < p
          · obtain ⟨ml, hml, hmq⟩ := HY.out.same HK.out
            obtain ⟨x, hx⟩ := get_some (l := ml) (k := k) (by have := hml.len; omega)
            obtain ⟨b, off, rfl, g0, g1, g2⟩ := hml.at_ hx
            obtain ⟨b', off', e1, y0, y1, y2⟩ := (hml.same ((Keep.refl (fun _ => False) wr).alloc (.cells #[.int .i64 0, .int .i64 0, .slice none 0 0] 46))).at_ hx
            cases e1
            have hqx : (putL id q a.prev a.term (a.es.map En.pe))[k]? = some x.pe := by rw [← hmq]; simp [hx]
            have hfl' := HCh.out k x.pe hqx
            have hTx : T ≤ x.t := by have := HF.out; simp only [En.pe] at hfl'; omega
            have HF' := hid (floor_step id hqx (t := 0))
            have hb := (Blk.made wr 46 #[.int .i64 0, .int .i64 0, .slice none 0 0])
            have f0 := hb.free 0
            have f1 := hb.free 1
            have f2 := hb.free 2
            have z0 : (wr.alloc (.cells #[.int .i64 0, .int .i64 0, .slice none 0 0] 46)).cell? ⟨wr.heap.size, 0, none⟩ = some (.int .i64 0) := hb.at_ 0
            have z1 : (wr.alloc (.cells #[.int .i64 0, .int .i64 0, .slice none 0 0] 46)).cell? ⟨wr.heap.size, 1, none⟩ = some (.int .i64 0) := hb.at_ 1
            have z2 : (wr.alloc (.cells #[.int .i64 0, .int .i64 0, .slice none 0 0] 46)).cell? ⟨wr.heap.size, 2, none⟩ = some (.slice none 0 0) := hb.at_ 2
            have hb2 := (Blk.made wr 46 #[.int .i64 x.t, .int .i64 x.k, .slice x.A x.m x.c])
            have x0 : (wr.alloc (.cells #[.int .i64 x.t, .int .i64 x.k, .slice x.A x.m x.c] 46)).cell? ⟨wr.heap.size, 0, none⟩ = some (.int .i64 x.t) := hb2.at_ 0
            have hk1 : (k : Int) < (p : Int) := by omega
            clear hb hb2 hml hmq hx hqx hfl'
            go_wp2_with fail
            go_roundw
            case rel => exact ⟨k + 1, x.t, by omega, by go_num, rfl, hid HF'.out.symm, hid (HK.out.alloc _)⟩
            case measure => simp [RowKit.intOf]; omega
          · obtain rfl : k = p := by omega
            have hBr := HB9.out.keep HK.out (fun f => f)
            have e1 : wr.cell? ⟨W.heap.size, 1, none⟩ = some (.int .i64 a.prev) := hBr.at_ 1
            have e2 : wr.cell? ⟨W.heap.size, 2, none⟩ = some (.int .i64 a.term) := hBr.at_ 2
            have e3 : wr.cell? ⟨W.heap.size, 3, none⟩ = some (.slice a.X a.n a.c) := hBr.at_ 3
            have HRr := hid (HR9.out.same HK.out)
            have hszr : w6.heap.size ≤ wr.heap.size := by have h1 := hsz.out; have h2 := hsz8.out; have h3 := HK.out.size; have h4 := hsz9.out; omega
            have HAg := hid (after_r wr w6.heap.size lb r8 hszr _ HRr.out (by have := Hlq.out; omega) a.es a.n a.c a.X (HE9.out.same HK.out) (by omega) a.prev a.term)
            rw [hag.out.1, hag.out.2, putE_ok Hp.out.2.2.2.2.2.1] at HAg
            clear hBr
            go_wp2_with (first
              | (go_at_call 16; (with_reducible refine HAg.out.mono ?_); rintro e w14 ⟨rfl, r14, hR14, hk14, hr14⟩
                 have HY14 := hid (((HY.out.same HK.out).wide (Av' := fun i => i = lb ∨ some i = r8) (fun i hi hs => (HR8.out.lt i hs).1)).keep hk14 (fun _ _ hs => hs))
                 have HK14 := hid ((HK9b.out.then HK.out).trans hk14 (fun i hi hs => by have := (HRr.out.lt i hs).2; have := HKs.out.size; omega))
                 have HRe := hid (rest_at w14 _ _ _ _ _ _ _ _ hR14 HY14.out (by have := Hlq.out; omega))
                 clear hR14 hk14 hr14 HAg)
              | (go_at_call 19; (with_reducible refine HRe.out.mono ?_); rintro e w15 ⟨rfl, hk15⟩
                 have HK15 := hid (HK14.out.then hk15)
                 clear hk15 HRe))
            go_ret
            exact ⟨by simp, HK15.out⟩
  · have hsm' : smallA (l ++ [a]) = false := by simpa using hsm
    go_enter Try.func6, Try.ntmps6
    go_wp2_with (first
      | (go_at_call 11; (with_reducible refine (wakes_any _).mono ?_); rintro e w1 ⟨rfl, hk1⟩
         have HK1 := hid (HK0.out.then hk1)
         have HB1 := hid (HB0.out.keep hk1 (fun f => f))
         clear hk1))
    have HSl := hid (HSl0.out.same HK1.out)
    have c0 : w1.cell? ⟨W.heap.size, 0, none⟩ = some (.bool a.put) := HB1.out.at_ 0
    have c1 : w1.cell? ⟨W.heap.size, 1, none⟩ = some (.int .i64 a.prev) := HB1.out.at_ 1
    have c2 : w1.cell? ⟨W.heap.size, 2, none⟩ = some (.int .i64 a.term) := HB1.out.at_ 2
    have c3 : w1.cell? ⟨W.heap.size, 3, none⟩ = some (.slice a.X a.n a.c) := HB1.out.at_ 3
    have hlt : W.heap.size < w1.heap.size := HB1.out.lt
    have HSm := hid (fun w5 A2 d2 (ho : Own w5 w1.heap.size 33 4 (.slice A2 (n + 1) d2) (n + 1) (actFlat l ++ a.cells)) (hk : Keep (fun i => w1.heap.size ≤ i) w1 w5) => HS.out w5 A2 d2 (ho.rebase (fun _ _ => Nat.zero_le _)) (HK1.out.then hk.own))
    rw [hsm'] at HSm
    have hS0 : Hid (w1.drew.cell? ⟨W.heap.size, 0, none⟩ = some (.bool a.put) ∧ w1.drew.cell? ⟨W.heap.size, 1, none⟩ = some (.int .i64 a.prev) ∧ w1.drew.cell? ⟨W.heap.size, 2, none⟩ = some (.int .i64 a.term) ∧ w1.drew.cell? ⟨W.heap.size, 3, none⟩ = some (.slice a.X a.n a.c)) := hid ⟨HB1.out.at_ 0, HB1.out.at_ 1, HB1.out.at_ 2, HB1.out.at_ 3⟩
    have hOa := hid (World.ownsRow_made (base := w1.heap.size) (e := 33) (size := 4) w1 #[] 0 (Nat.le_refl _) (by simp [maxLen]) rfl)
    have hOb := hid (World.ownsRow.alloc hOa.out (.cells #[.bool a.put, .int .i64 a.prev, .int .i64 a.term, .slice a.X a.n a.c] 33))
    have hOc := hid (World.ownsRow_made (base := w1.heap.size) (e := 33) (size := 4) (w1.alloc (.cells #[.bool a.put, .int .i64 a.prev, .int .i64 a.term, .slice a.X a.n a.c] 33)) #[] 0 (by simp) (by simp [maxLen]) rfl)
    rw [World.size_alloc] at hOc
    have hBb := (Blk.made (w1.alloc (.cells #[] 33)) 33 #[.bool a.put, .int .i64 a.prev, .int .i64 a.term, .slice a.X a.n a.c])
    rw [World.size_alloc] at hBb
    have HBb := hid hBb
    have HBc := hid ((Blk.made w1 33 #[.bool a.put, .int .i64 a.prev, .int .i64 a.term, .slice a.X a.n a.c]).alloc (.cells #[] 33))
    have HKa := hid (((Keep.refl (fun _ => False) w1).alloc (.cells #[] 33)).drew)
    have HKb := hid ((((Keep.refl (fun _ => False) w1).alloc (.cells #[] 33)).alloc (.cells #[.bool a.put, .int .i64 a.prev, .int .i64 a.term, .slice a.X a.n a.c] 33)).drew)
    have HKc := hid ((((Keep.refl (fun _ => False) w1).alloc (.cells #[.bool a.put, .int .i64 a.prev, .int .i64 a.term, .slice a.X a.n a.c] 33)).alloc (.cells #[] 33)).drew)
    have hOne : Hid (∀ u ∈ a.cells, u.oneCell' = true) := hid (by intro u hu; exact actFlat_one [a] u (by simpa [actFlat] using hu))
    clear hBb
    go_region_held3 (fun w' => w'.cell? ⟨W.heap.size, 0, none⟩ = some (.bool a.put) ∧ w'.cell? ⟨W.heap.size, 1, none⟩ = some (.int .i64 a.prev) ∧ w'.cell? ⟨W.heap.size, 2, none⟩ = some (.int .i64 a.term) ∧ w'.cell? ⟨W.heap.size, 3, none⟩ = some (.slice a.X a.n a.c))
      (first | exact hS0.out | exact hS4.out | exact hS5.out | exact hS6.out | go_keep)
      (first
        | (refine E22.step2 rfl (.tmp 17) (.tmp 18) rfl (.slice (some ⟨w1.heap.size, 0, none⟩) 0 0) X n c rfl rfl w1.heap.size 0 [] (actFlat l) n _ (Nat.zero_add _) (List.nil_append _) hOa.out hfl (HSl.out.src (HKa.out)) (actFlat_one l) (by omega) (by unfold maxLen; omega) (by first | omega | (simp; done) | (simp; omega)) ?_
           intro A1 d1 w4 ho4 hg4 _
           have HO4 := hid ho4
           have hk4 : Keep (fun i => w1.heap.size ≤ i) w1 w4 := (HKa.out.wide (fun _ _ f => f.elim)).grown hg4 (fun g e hl => by simp [Value.ownBlock] at e; omega)
           have HK4 := hid hk4
           have hSa : Hid (0 < 1 → ∃ ad, (some ⟨w4.heap.size, 0, none⟩ : Option Addr) = some ad ∧ ∀ j u, (a.cells)[j]? = some u → (w4.alloc (.cells #[.bool a.put, .int .i64 a.prev, .int .i64 a.term, .slice a.X a.n a.c] 33)).cell? (ad.add j) = some u) := hid (fun _ => ⟨_, rfl, src_new (w := w4) rfl⟩)
           have hS4 : Hid (w4.cell? ⟨W.heap.size, 0, none⟩ = some (.bool a.put) ∧ w4.cell? ⟨W.heap.size, 1, none⟩ = some (.int .i64 a.prev) ∧ w4.cell? ⟨W.heap.size, 2, none⟩ = some (.int .i64 a.term) ∧ w4.cell? ⟨W.heap.size, 3, none⟩ = some (.slice a.X a.n a.c)) := hid ⟨(HB1.out.keep hk4 (by have := HB1.out.lt; omega)).at_ 0, (HB1.out.keep hk4 (by have := HB1.out.lt; omega)).at_ 1, (HB1.out.keep hk4 (by have := HB1.out.lt; omega)).at_ 2, (HB1.out.keep hk4 (by have := HB1.out.lt; omega)).at_ 3⟩
           have hc0 : w4.cell? ⟨W.heap.size, 0, none⟩ = some (.bool a.put) := (HB1.out.keep hk4 (by have := HB1.out.lt; omega)).at_ 0
           have hc1 : w4.cell? ⟨W.heap.size, 1, none⟩ = some (.int .i64 a.prev) := (HB1.out.keep hk4 (by have := HB1.out.lt; omega)).at_ 1
           have hc2 : w4.cell? ⟨W.heap.size, 2, none⟩ = some (.int .i64 a.term) := (HB1.out.keep hk4 (by have := HB1.out.lt; omega)).at_ 2
           have hc3 : w4.cell? ⟨W.heap.size, 3, none⟩ = some (.slice a.X a.n a.c) := (HB1.out.keep hk4 (by have := HB1.out.lt; omega)).at_ 3
           have hle4 : w1.heap.size ≤ w4.heap.size := hk4.size
           clear ho4 hg4 hk4)
        | (refine E22.step2 rfl (.tmp 19) (.tmp 21) rfl (.slice A1 n d1) (some ⟨w4.heap.size, 0, none⟩) 1 1 rfl rfl w1.heap.size n _ (a.cells) _ _ rfl rfl (World.ownsRow.alloc HO4.out (.cells #[.bool a.put, .int .i64 a.prev, .int .i64 a.term, .slice a.X a.n a.c] 33)) rfl (hSa.out) (hOne.out) (by omega) (by unfold maxLen; omega) (by first | omega | (simp; omega)) ?_
           intro A2 d2 w5 ho5 hg5 _
           have hk5 := (HK4.out.alloc (.cells #[.bool a.put, .int .i64 a.prev, .int .i64 a.term, .slice a.X a.n a.c] 33)).grown hg5 (fun g e _ => HO4.out.block g e)
           have hS5 : Hid (w5.cell? ⟨W.heap.size, 0, none⟩ = some (.bool a.put) ∧ w5.cell? ⟨W.heap.size, 1, none⟩ = some (.int .i64 a.prev) ∧ w5.cell? ⟨W.heap.size, 2, none⟩ = some (.int .i64 a.term) ∧ w5.cell? ⟨W.heap.size, 3, none⟩ = some (.slice a.X a.n a.c)) := hid ⟨(HB1.out.keep hk5 (by have := HB1.out.lt; omega)).at_ 0, (HB1.out.keep hk5 (by have := HB1.out.lt; omega)).at_ 1, (HB1.out.keep hk5 (by have := HB1.out.lt; omega)).at_ 2, (HB1.out.keep hk5 (by have := HB1.out.lt; omega)).at_ 3⟩
           have HO9 := hid ho5
           have HK9 := hid hk5
           have HS9 := hid (HSm.out _ _ _ ho5 hk5)
           clear ho5 hg5 hk5)
        | (refine E22.step2 rfl (.tmp 17) (.tmp 18) rfl (.slice (some ⟨w1.heap.size, 0, none⟩) 0 0) X n c rfl rfl w1.heap.size 0 [] (actFlat l) n _ (Nat.zero_add _) (List.nil_append _) hOb.out hfl (HSl.out.src (HKb.out)) (actFlat_one l) (by omega) (by unfold maxLen; omega) (by first | omega | (simp; done) | (simp; omega)) ?_
           intro A1 d1 w4b ho4 hg4 _
           have HO4b := hid ho4
           have hk4 : Keep (fun i => w1.heap.size ≤ i) w1 w4b := (HKb.out.wide (fun _ _ f => f.elim)).grown hg4 (fun g e hl => by simp [Value.ownBlock] at e; omega)
           have HK4b := hid hk4
           have hB4 := hid (HBb.out.keep (((Keep.refl (· = w1.heap.size) ((w1.alloc (.cells #[] 33)).alloc (.cells #[.bool a.put, .int .i64 a.prev, .int .i64 a.term, .slice a.X a.n a.c] 33)))).drew.grown hg4 (fun g e _ => by simp [Value.ownBlock] at e; omega)) (by omega))
           have hSb : Hid (0 < 1 → ∃ ad, (some ⟨w1.heap.size + 1, 0, none⟩ : Option Addr) = some ad ∧ ∀ j u, (a.cells)[j]? = some u → w4b.cell? (ad.add j) = some u) := hid (fun _ => ⟨_, rfl, src_blk hB4.out⟩)
           clear hB4
           have hS4 : Hid (w4b.cell? ⟨W.heap.size, 0, none⟩ = some (.bool a.put) ∧ w4b.cell? ⟨W.heap.size, 1, none⟩ = some (.int .i64 a.prev) ∧ w4b.cell? ⟨W.heap.size, 2, none⟩ = some (.int .i64 a.term) ∧ w4b.cell? ⟨W.heap.size, 3, none⟩ = some (.slice a.X a.n a.c)) := hid ⟨(HB1.out.keep hk4 (by have := HB1.out.lt; omega)).at_ 0, (HB1.out.keep hk4 (by have := HB1.out.lt; omega)).at_ 1, (HB1.out.keep hk4 (by have := HB1.out.lt; omega)).at_ 2, (HB1.out.keep hk4 (by have := HB1.out.lt; omega)).at_ 3⟩
           have hc0 : w4b.cell? ⟨W.heap.size, 0, none⟩ = some (.bool a.put) := (HB1.out.keep hk4 (by have := HB1.out.lt; omega)).at_ 0
           have hc1 : w4b.cell? ⟨W.heap.size, 1, none⟩ = some (.int .i64 a.prev) := (HB1.out.keep hk4 (by have := HB1.out.lt; omega)).at_ 1
           have hc2 : w4b.cell? ⟨W.heap.size, 2, none⟩ = some (.int .i64 a.term) := (HB1.out.keep hk4 (by have := HB1.out.lt; omega)).at_ 2
           have hc3 : w4b.cell? ⟨W.heap.size, 3, none⟩ = some (.slice a.X a.n a.c) := (HB1.out.keep hk4 (by have := HB1.out.lt; omega)).at_ 3
           have hle4 : w1.heap.size ≤ w4b.heap.size := hk4.size
           clear ho4 hg4 hk4)
        | (refine E22.step2 rfl (.tmp 19) (.tmp 21) rfl (.slice A1 n d1) (some ⟨w1.heap.size + 1, 0, none⟩) 1 1 rfl rfl w1.heap.size n _ (a.cells) _ _ rfl rfl HO4b.out rfl (hSb.out) (hOne.out) (by omega) (by unfold maxLen; omega) (by first | omega | (simp; omega)) ?_
           intro A2 d2 w5 ho5 hg5 _
           have hk5 := HK4b.out.grown hg5 (fun g e _ => HO4b.out.block g e)
           have hS5 : Hid (w5.cell? ⟨W.heap.size, 0, none⟩ = some (.bool a.put) ∧ w5.cell? ⟨W.heap.size, 1, none⟩ = some (.int .i64 a.prev) ∧ w5.cell? ⟨W.heap.size, 2, none⟩ = some (.int .i64 a.term) ∧ w5.cell? ⟨W.heap.size, 3, none⟩ = some (.slice a.X a.n a.c)) := hid ⟨(HB1.out.keep hk5 (by have := HB1.out.lt; omega)).at_ 0, (HB1.out.keep hk5 (by have := HB1.out.lt; omega)).at_ 1, (HB1.out.keep hk5 (by have := HB1.out.lt; omega)).at_ 2, (HB1.out.keep hk5 (by have := HB1.out.lt; omega)).at_ 3⟩
           have HO9 := hid ho5
           have HK9 := hid hk5
           have HS9 := hid (HSm.out _ _ _ ho5 hk5)
           clear ho5 hg5 hk5)
        | (refine E22.step2 rfl (.tmp 17) (.tmp 18) rfl (.slice (some ⟨w1.heap.size + 1, 0, none⟩) 0 0) X n c rfl rfl w1.heap.size 0 [] (actFlat l) n _ (Nat.zero_add _) (List.nil_append _) hOc.out hfl (HSl.out.src (HKc.out)) (actFlat_one l) (by omega) (by unfold maxLen; omega) (by first | omega | (simp; done) | (simp; omega)) ?_
           intro A1 d1 w4c ho4 hg4 _
           have HO4c := hid ho4
           have hk4 : Keep (fun i => w1.heap.size ≤ i) w1 w4c := (HKc.out.wide (fun _ _ f => f.elim)).grown hg4 (fun g e hl => by simp [Value.ownBlock] at e; omega)
           have HK4c := hid hk4
           have hB4 := hid (HBc.out.keep (((Keep.refl (· = w1.heap.size + 1) ((w1.alloc (.cells #[.bool a.put, .int .i64 a.prev, .int .i64 a.term, .slice a.X a.n a.c] 33)).alloc (.cells #[] 33)))).drew.grown hg4 (fun g e _ => by simp [Value.ownBlock] at e; omega)) (by omega))
           have hSc : Hid (0 < 1 → ∃ ad, (some ⟨w1.heap.size, 0, none⟩ : Option Addr) = some ad ∧ ∀ j u, (a.cells)[j]? = some u → w4c.cell? (ad.add j) = some u) := hid (fun _ => ⟨_, rfl, src_blk hB4.out⟩)
           clear hB4
           have hS4 : Hid (w4c.cell? ⟨W.heap.size, 0, none⟩ = some (.bool a.put) ∧ w4c.cell? ⟨W.heap.size, 1, none⟩ = some (.int .i64 a.prev) ∧ w4c.cell? ⟨W.heap.size, 2, none⟩ = some (.int .i64 a.term) ∧ w4c.cell? ⟨W.heap.size, 3, none⟩ = some (.slice a.X a.n a.c)) := hid ⟨(HB1.out.keep hk4 (by have := HB1.out.lt; omega)).at_ 0, (HB1.out.keep hk4 (by have := HB1.out.lt; omega)).at_ 1, (HB1.out.keep hk4 (by have := HB1.out.lt; omega)).at_ 2, (HB1.out.keep hk4 (by have := HB1.out.lt; omega)).at_ 3⟩
           have hc0 : w4c.cell? ⟨W.heap.size, 0, none⟩ = some (.bool a.put) := (HB1.out.keep hk4 (by have := HB1.out.lt; omega)).at_ 0
           have hc1 : w4c.cell? ⟨W.heap.size, 1, none⟩ = some (.int .i64 a.prev) := (HB1.out.keep hk4 (by have := HB1.out.lt; omega)).at_ 1
           have hc2 : w4c.cell? ⟨W.heap.size, 2, none⟩ = some (.int .i64 a.term) := (HB1.out.keep hk4 (by have := HB1.out.lt; omega)).at_ 2
           have hc3 : w4c.cell? ⟨W.heap.size, 3, none⟩ = some (.slice a.X a.n a.c) := (HB1.out.keep hk4 (by have := HB1.out.lt; omega)).at_ 3
           have hle4 : w1.heap.size ≤ w4c.heap.size := hk4.size
           clear ho4 hg4 hk4)
        | (refine E22.step2 rfl (.tmp 19) (.tmp 21) rfl (.slice A1 n d1) (some ⟨w1.heap.size, 0, none⟩) 1 1 rfl rfl w1.heap.size n _ (a.cells) _ _ rfl rfl HO4c.out rfl (hSc.out) (hOne.out) (by omega) (by unfold maxLen; omega) (by first | omega | (simp; omega)) ?_
           intro A2 d2 w5 ho5 hg5 _
           have hk5 := HK4c.out.grown hg5 (fun g e _ => HO4c.out.block g e)
           have hS5 : Hid (w5.cell? ⟨W.heap.size, 0, none⟩ = some (.bool a.put) ∧ w5.cell? ⟨W.heap.size, 1, none⟩ = some (.int .i64 a.prev) ∧ w5.cell? ⟨W.heap.size, 2, none⟩ = some (.int .i64 a.term) ∧ w5.cell? ⟨W.heap.size, 3, none⟩ = some (.slice a.X a.n a.c)) := hid ⟨(HB1.out.keep hk5 (by have := HB1.out.lt; omega)).at_ 0, (HB1.out.keep hk5 (by have := HB1.out.lt; omega)).at_ 1, (HB1.out.keep hk5 (by have := HB1.out.lt; omega)).at_ 2, (HB1.out.keep hk5 (by have := HB1.out.lt; omega)).at_ 3⟩
           have HO9 := hid ho5
           have HK9 := hid hk5
           have HS9 := hid (HSm.out _ _ _ ho5 hk5)
           clear ho5 hg5 hk5)
        | (go_at_call 12; (with_reducible refine HS9.out.mono ?_); rintro e w6 ⟨rfl, hk6⟩
           have HK6 := hid (HK9.out.then hk6)
           have hS6 : Hid (w6.cell? ⟨W.heap.size, 0, none⟩ = some (.bool a.put) ∧ w6.cell? ⟨W.heap.size, 1, none⟩ = some (.int .i64 a.prev) ∧ w6.cell? ⟨W.heap.size, 2, none⟩ = some (.int .i64 a.term) ∧ w6.cell? ⟨W.heap.size, 3, none⟩ = some (.slice a.X a.n a.c)) := hid ⟨(HB1.out.keep HK6.out (by have := HB1.out.lt; omega)).at_ 0, (HB1.out.keep HK6.out (by have := HB1.out.lt; omega)).at_ 1, (HB1.out.keep HK6.out (by have := HB1.out.lt; omega)).at_ 2, (HB1.out.keep HK6.out (by have := HB1.out.lt; omega)).at_ 3⟩
           clear hk6 HS9))
    all_goals
      go_wp2_with fail
      go_ret
      exact ⟨rfl, HK1.out.then HK6.out.own⟩
end Go.Proofs.Ytbellndcgagclaa

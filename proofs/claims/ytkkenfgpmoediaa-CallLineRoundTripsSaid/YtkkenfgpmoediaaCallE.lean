import Derived.Test.YtkkenfgpmoediaaCallC
import Derived.Test.YtkkenfgpmoediaaCallD
namespace Go.Proofs.Ytkkenfgpmoediaa
open Go.RowKit

/-! ## The reference's Say -/
def saySR (s : CL) (a : Int) : CL := if sayE s a = 0 then { s with st := 2, since := -1, ans := s.ans ++ [a] } else s
section
variable (w : World) (Av : Nat → Prop) (A : Option Addr) (c : Nat) (s : CL) (h : Sl w Av 1 A s.ans.length (icells s.ans))
include h
set_option maxHeartbeats 4000000 in
set_option maxRecDepth 100000 in
theorem rsay_any (a : Int) (hl : s.ans.length ≤ 1000) (hAv : ∀ i, Av i → i < w.heap.size) : Calls Try.prog 31 #[.agg (s.cells A c).toArray, .int .i64 a] w (RefPost w Av (saySR s a) (sayE s a)) := by
  have HT := hid number_any
  obtain ⟨call, st, since, cen, ep, name, ver, ans⟩ := s
  have H := hid h
  clear h
  simp only [CL.cells]
  by_cases h0 : a < 0
  · have hE : sayE ⟨call, st, since, cen, ep, name, ver, ans⟩ a = 1 := by simp [sayE, h0]
    have hS : saySR ⟨call, st, since, cen, ep, name, ver, ans⟩ a = ⟨call, st, since, cen, ep, name, ver, ans⟩ := by unfold saySR; rw [hE]; simp
    rw [hE, hS]
    clear hE hS
    go_enter Try.func31, Try.ntmps31
    go_wp2_with (go_at_call 24; refine (HT.out _ _ _).mono ?_; rintro e1 w1 ⟨rfl, rfl⟩; first | rw [hbe] | rw [hbt])
    refine bodyPost_ret (v := .tuple #[.agg #[.int .i64 (call), .int .i64 (st), .int .i64 (since), .int .i64 (cen), .int .i64 (ep), .string (name), .int .i64 (ver), .slice A ans.length c], .int .i64 1]) (by simp [results, Try.results31, go_sem] <;> omega) rfl ⟨A, c, rfl, H.out.same (((Keep.refl _ w).alloc _).alloc _), ((Keep.refl _ w).alloc _).alloc _⟩
  · by_cases h15 : 15 < a
    · have hE : sayE ⟨call, st, since, cen, ep, name, ver, ans⟩ a = 1 := by simp [sayE, h0, h15]
      have hS : saySR ⟨call, st, since, cen, ep, name, ver, ans⟩ a = ⟨call, st, since, cen, ep, name, ver, ans⟩ := by unfold saySR; rw [hE]; simp
      rw [hE, hS]
      clear hE hS
      go_enter Try.func31, Try.ntmps31
      go_wp2_with (go_at_call 24; refine (HT.out _ _ _).mono ?_; rintro e1 w1 ⟨rfl, rfl⟩; first | rw [hbe] | rw [hbt])
      refine bodyPost_ret (v := .tuple #[.agg #[.int .i64 (call), .int .i64 (st), .int .i64 (since), .int .i64 (cen), .int .i64 (ep), .string (name), .int .i64 (ver), .slice A ans.length c], .int .i64 1]) (by simp [results, Try.results31, go_sem] <;> omega) rfl ⟨A, c, rfl, H.out.same (((Keep.refl _ w).alloc _).alloc _), ((Keep.refl _ w).alloc _).alloc _⟩
    · by_cases hst2 : st = 2
      · subst hst2
        obtain ⟨bn, hbn⟩ : ∃ bb, (name.toList == []) = bb := ⟨_, rfl⟩
        cases bn with
        | false =>
          by_cases h200 : 200 ≤ ans.length
          · have h2i : (200 : Int) ≤ ans.length := by omega
            have hE : sayE ⟨call, 2, since, cen, ep, name, ver, ans⟩ a = 3 := by simp [sayE, h0, h15, hbn, h200]
            have hS : saySR ⟨call, 2, since, cen, ep, name, ver, ans⟩ a = ⟨call, 2, since, cen, ep, name, ver, ans⟩ := by unfold saySR; rw [hE]; simp
            rw [hE, hS]
            clear hE hS
            go_enter Try.func31, Try.ntmps31
            go_wp2_with (go_at_call 24; refine (HT.out _ _ _).mono ?_; rintro e1 w1 ⟨rfl, rfl⟩; first | rw [hbe] | rw [hbt])
            refine bodyPost_ret (v := .tuple #[.agg #[.int .i64 (call), .int .i64 (2), .int .i64 (since), .int .i64 (cen), .int .i64 (ep), .string (name), .int .i64 (ver), .slice A ans.length c], .int .i64 3]) (by simp [results, Try.results31, go_sem] <;> omega) rfl ⟨A, c, rfl, H.out.same (((Keep.refl _ w).alloc _).alloc _), ((Keep.refl _ w).alloc _).alloc _⟩
          · have hE : sayE ⟨call, 2, since, cen, ep, name, ver, ans⟩ a = 0 := by simp [sayE, h0, h15, hbn, h200]
            have hS : saySR ⟨call, 2, since, cen, ep, name, ver, ans⟩ a = ⟨call, 2, -1, cen, ep, name, ver, ans ++ [a]⟩ := by unfold saySR; rw [hE]; simp
            rw [hE, hS]
            clear hE hS
            simp only at hl
            have hn0 : (ans.length : Int) < 200 := by omega
            have hk1 : Same w ((w.alloc (.cells #[.int .i64 call, .int .i64 2, .int .i64 (-1), .int .i64 cen, .int .i64 ep, .string name, .int .i64 ver, .slice A ans.length c] 31)).alloc (.cells #[.int .i64 0, .int .i64 0, .int .i64 0, .int .i64 0, .int .i64 0, .string ⟨#[]⟩, .int .i64 0, .slice none 0 0] 31)) := ((Keep.refl _ w).alloc _).alloc _
            have HK1 := hid hk1
            have hbox := (Blk.made w 31 #[.int .i64 call, .int .i64 2, .int .i64 (-1), .int .i64 cen, .int .i64 ep, .string name, .int .i64 ver, .slice A ans.length c]).alloc (.cells #[.int .i64 0, .int .i64 0, .int .i64 0, .int .i64 0, .int .i64 0, .string ⟨#[]⟩, .int .i64 0, .slice none 0 0] 31)
            have hres := Blk.made (w.alloc (.cells #[.int .i64 call, .int .i64 2, .int .i64 (-1), .int .i64 cen, .int .i64 ep, .string name, .int .i64 ver, .slice A ans.length c] 31)) 31 #[.int .i64 0, .int .i64 0, .int .i64 0, .int .i64 0, .int .i64 0, .string ⟨#[]⟩, .int .i64 0, .slice none 0 0]
            rw [World.size_alloc] at hres
            have HBX := hid hbox
            have HRES := hid hres
            have ho0 := Own.of_blk (Nat.le_refl _) (Blk.made ((w.alloc (.cells #[.int .i64 call, .int .i64 2, .int .i64 (-1), .int .i64 cen, .int .i64 ep, .string name, .int .i64 ver, .slice A ans.length c] 31)).alloc (.cells #[.int .i64 0, .int .i64 0, .int .i64 0, .int .i64 0, .int .i64 0, .string ⟨#[]⟩, .int .i64 0, .slice none 0 0] 31)) 3 #[]) (Nat.le_refl 0) (by simp [maxLen]) (by simp : (#[] : Array Value).size = 0 * 1) (xs := []) (by simp)
            have HO0 := hid ho0
            have HSR := hid ((H.out.same (hk1.alloc (.cells #[] 3))).src (Keep.refl (fun _ => False) _))
            have HAL := hid (icells_len ans)
            have HT := hid (show icells ans ++ [.int .i64 a] = icells (ans ++ [a]) by simp [icells])
            clear hk1 hbox hres ho0
            go_enter Try.func31, Try.ntmps31
            go_wp2_with (first
              | (at_builtin
                 refine EIn.law2 (.tmp 34) (.tmp 36) (.slice (some ⟨((w.alloc (.cells #[.int .i64 call, .int .i64 2, .int .i64 (-1), .int .i64 cen, .int .i64 ep, .string name, .int .i64 ver, .slice A ans.length c] 31)).alloc (.cells #[.int .i64 0, .int .i64 0, .int .i64 0, .int .i64 0, .int .i64 0, .string ⟨#[]⟩, .int .i64 0, .slice none 0 0] 31)).heap.size, 0, none⟩) 0 0) A ans.length c (by rfl) (by rfl) (by simp [Act.eval]) (by simp [Act.eval]) ((w.alloc (.cells #[.int .i64 call, .int .i64 2, .int .i64 (-1), .int .i64 cen, .int .i64 ep, .string name, .int .i64 ver, .slice A ans.length c] 31)).alloc (.cells #[.int .i64 0, .int .i64 0, .int .i64 0, .int .i64 0, .int .i64 0, .string ⟨#[]⟩, .int .i64 0, .slice none 0 0] 31)).heap.size 0 [] (icells ans) ans.length _ (Nat.zero_add _) rfl HO0.out (by rw [HAL.out]; omega) HSR.out (icells_one _) (by omega) (by unfold maxLen; omega) (by simp) ?_
                 intro A2 c2 w2 ho hg hw
                 have hk12 := ((Keep.refl (fun g => ((w.alloc (.cells #[.int .i64 call, .int .i64 2, .int .i64 (-1), .int .i64 cen, .int .i64 ep, .string name, .int .i64 ver, .slice A ans.length c] 31)).alloc (.cells #[.int .i64 0, .int .i64 0, .int .i64 0, .int .i64 0, .int .i64 0, .string ⟨#[]⟩, .int .i64 0, .slice none 0 0] 31)).heap.size ≤ g) ((w.alloc (.cells #[.int .i64 call, .int .i64 2, .int .i64 (-1), .int .i64 cen, .int .i64 ep, .string name, .int .i64 ver, .slice A ans.length c] 31)).alloc (.cells #[.int .i64 0, .int .i64 0, .int .i64 0, .int .i64 0, .int .i64 0, .string ⟨#[]⟩, .int .i64 0, .slice none 0 0] 31))).alloc (.cells #[] 3)).app HO0.out hg (fun g h1 h2 => h1)
                 have HK12 := hid hk12
                 have hz2 := hk12.size
                 have HO2 := hid (World.ownsRow.alloc ho (.cells #[.int .i64 a] 3))
                 simp only [World.size_alloc] at hz2
                 clear ho hg hw hk12)
              | (at_builtin
                 refine EIn.law2 (.tmp 37) (.tmp 39) (.slice A2 ans.length c2) (some ⟨w2.heap.size, 0, none⟩) 1 1 rfl rfl rfl rfl ((w.alloc (.cells #[.int .i64 call, .int .i64 2, .int .i64 (-1), .int .i64 cen, .int .i64 ep, .string name, .int .i64 ver, .slice A ans.length c] 31)).alloc (.cells #[.int .i64 0, .int .i64 0, .int .i64 0, .int .i64 0, .int .i64 0, .string ⟨#[]⟩, .int .i64 0, .slice none 0 0] 31)).heap.size ans.length (icells ans) [.int .i64 a] (ans.length + 1) _ rfl rfl HO2.out rfl (fun _ => ⟨_, rfl, src_new rfl⟩) (by intro u hu; simp at hu; subst hu; rfl) (by omega) (by unfold maxLen; omega) (by simp only [World.size_alloc]; omega) ?_
                 intro A3 c3 w3 ho hg hw
                 have hk13 := (HK12.out.alloc (.cells #[.int .i64 a] 3)).app HO2.out hg (fun g h1 h2 => h1)
                 have hb3 := HBX.out.keep hk13 (by simp only [World.size_alloc]; omega)
                 have hr3 := HRES.out.keep hk13 (by simp only [World.size_alloc]; omega)
                 have d0 := hb3.at_ 0
                 have e0 := hb3.free 0
                 have z0 := hr3.at_ 0
                 have y0 := hr3.free 0
                 have d1 := hb3.at_ 1
                 have e1 := hb3.free 1
                 have z1 := hr3.at_ 1
                 have y1 := hr3.free 1
                 have d2 := hb3.at_ 2
                 have e2 := hb3.free 2
                 have z2 := hr3.at_ 2
                 have y2 := hr3.free 2
                 have d3 := hb3.at_ 3
                 have e3 := hb3.free 3
                 have z3 := hr3.at_ 3
                 have y3 := hr3.free 3
                 have d4 := hb3.at_ 4
                 have e4 := hb3.free 4
                 have z4 := hr3.at_ 4
                 have y4 := hr3.free 4
                 have d5 := hb3.at_ 5
                 have e5 := hb3.free 5
                 have z5 := hr3.at_ 5
                 have y5 := hr3.free 5
                 have d6 := hb3.at_ 6
                 have e6 := hb3.free 6
                 have z6 := hr3.at_ 6
                 have y6 := hr3.free 6
                 have d7 := hb3.at_ 7
                 have e7 := hb3.free 7
                 have z7 := hr3.at_ 7
                 have y7 := hr3.free 7
                 have HB3 := hid hb3
                 have HR3 := hid hr3
                 have HK3 := hid (HK1.out.trans hk13 (fun i hi hs => by simp at hs; omega))
                 have HO3 := hid ho
                 have hlt3 := hr3.lt
                 simp at d0 d1 d2 d3 d4 d5 d6 d7 z0 z1 z2 z3 z4 z5 z6 z7
                 clear ho hg hw hk13 hb3 hr3))
            have hlen : (ans ++ [a]).length = ans.length + 1 := by simp
            have hkA := (Keep.refl (· = w.heap.size) w3).put 7 (.slice A3 (ans.length + 1) c3)
            have hrA := HR3.out.keep hkA (by omega)
            have hkB := (((((((((Keep.refl (· = w.heap.size + 1) (w3.setCell ⟨w.heap.size, 7, none⟩ (.slice A3 (ans.length + 1) c3))).put 0 (.int .i64 call)).put 1 (.int .i64 2)).put 2 (.int .i64 (-1))).put 3 (.int .i64 cen)).put 4 (.int .i64 ep)).put 5 (.string name)).put 6 (.int .i64 ver)).put 7 (.slice A3 (ans.length + 1) c3))
            have hrB := ((((((((hrA.put 0 (.int .i64 call)).put 1 (.int .i64 2)).put 2 (.int .i64 (-1))).put 3 (.int .i64 cen)).put 4 (.int .i64 ep)).put 5 (.string name)).put 6 (.int .i64 ver)).put 7 (.slice A3 (ans.length + 1) c3))
            have hkC := (hkA.wide (T := fun i => i = w.heap.size ∨ i = w.heap.size + 1) (fun _ _ e => .inl e)).trans (hkB.wide (T := fun i => i = w.heap.size ∨ i = w.heap.size + 1) (fun _ _ e => .inr e)) (fun _ _ e => e)
            generalize (((((((((w3.setCell ⟨w.heap.size, 7, none⟩ (.slice A3 (ans.length + 1) c3)).setCell ⟨w.heap.size + 1, 0, none⟩ (.int .i64 call)).setCell ⟨w.heap.size + 1, 1, none⟩ (.int .i64 2)).setCell ⟨w.heap.size + 1, 2, none⟩ (.int .i64 (-1))).setCell ⟨w.heap.size + 1, 3, none⟩ (.int .i64 cen)).setCell ⟨w.heap.size + 1, 4, none⟩ (.int .i64 ep)).setCell ⟨w.heap.size + 1, 5, none⟩ (.string name)).setCell ⟨w.heap.size + 1, 6, none⟩ (.int .i64 ver)).setCell ⟨w.heap.size + 1, 7, none⟩ (.slice A3 (ans.length + 1) c3)) = WW at *
            have q0 := hrB.at_ 0
            have q1 := hrB.at_ 1
            have q2 := hrB.at_ 2
            have q3 := hrB.at_ 3
            have q4 := hrB.at_ 4
            have q5 := hrB.at_ 5
            have q6 := hrB.at_ 6
            have q7 := hrB.at_ 7
            simp at q0 q1 q2 q3 q4 q5 q6 q7
            refine bodyPost_ret (v := .tuple #[.agg #[.int .i64 call, .int .i64 2, .int .i64 (-1), .int .i64 cen, .int .i64 ep, .string name, .int .i64 ver, .slice A3 (ans.length + 1) c3], .int .i64 0]) (by simp [results, Try.results31, go_sem, q0, q1, q2, q3, q4, q5, q6, q7]) rfl ⟨A3, c3, by simp [CL.cells], ?_, HK3.out.trans hkC (fun i hi e => by omega)⟩
            simp only
            rw [hlen, ← HT.out]
            exact (HO3.out.keep hkC (fun i hi _ hs => by simp only [World.size_alloc] at hi; omega)).sl (fun g hg ha => by have := hAv g ha; simp only [World.size_alloc] at hg; omega)
        | true =>
          have hE : sayE ⟨call, 2, since, cen, ep, name, ver, ans⟩ a = 8 := by simp [sayE, h0, h15, hbn]
          have hS : saySR ⟨call, 2, since, cen, ep, name, ver, ans⟩ a = ⟨call, 2, since, cen, ep, name, ver, ans⟩ := by unfold saySR; rw [hE]; simp
          rw [hE, hS]
          clear hE hS
          go_enter Try.func31, Try.ntmps31
          go_wp2_with (go_at_call 24; refine (HT.out _ _ _).mono ?_; rintro e1 w1 ⟨rfl, rfl⟩; first | rw [hbe] | rw [hbt])
          refine bodyPost_ret (v := .tuple #[.agg #[.int .i64 (call), .int .i64 (2), .int .i64 (since), .int .i64 (cen), .int .i64 (ep), .string (name), .int .i64 (ver), .slice A ans.length c], .int .i64 8]) (by simp [results, Try.results31, go_sem] <;> omega) rfl ⟨A, c, rfl, H.out.same (((Keep.refl _ w).alloc _).alloc _), ((Keep.refl _ w).alloc _).alloc _⟩
      · have ghst2 : (st == (2 : Int)) = false := by simpa using hst2
        by_cases hst4 : st = 4
        · subst hst4
          obtain ⟨bn, hbn⟩ : ∃ bb, (name.toList == []) = bb := ⟨_, rfl⟩
          cases bn with
          | false =>
            by_cases h200 : 200 ≤ ans.length
            · have h2i : (200 : Int) ≤ ans.length := by omega
              have hE : sayE ⟨call, 4, since, cen, ep, name, ver, ans⟩ a = 3 := by simp [sayE, h0, h15, hst2, hbn, h200]
              have hS : saySR ⟨call, 4, since, cen, ep, name, ver, ans⟩ a = ⟨call, 4, since, cen, ep, name, ver, ans⟩ := by unfold saySR; rw [hE]; simp
              rw [hE, hS]
              clear hE hS
              go_enter Try.func31, Try.ntmps31
              go_wp2_with (go_at_call 24; refine (HT.out _ _ _).mono ?_; rintro e1 w1 ⟨rfl, rfl⟩; first | rw [hbe] | rw [hbt])
              refine bodyPost_ret (v := .tuple #[.agg #[.int .i64 (call), .int .i64 (4), .int .i64 (since), .int .i64 (cen), .int .i64 (ep), .string (name), .int .i64 (ver), .slice A ans.length c], .int .i64 3]) (by simp [results, Try.results31, go_sem] <;> omega) rfl ⟨A, c, rfl, H.out.same (((Keep.refl _ w).alloc _).alloc _), ((Keep.refl _ w).alloc _).alloc _⟩
            · have hE : sayE ⟨call, 4, since, cen, ep, name, ver, ans⟩ a = 0 := by simp [sayE, h0, h15, hst2, hbn, h200]
              have hS : saySR ⟨call, 4, since, cen, ep, name, ver, ans⟩ a = ⟨call, 2, -1, cen, ep, name, ver, ans ++ [a]⟩ := by unfold saySR; rw [hE]; simp
              rw [hE, hS]
              clear hE hS
              simp only at hl
              have hn0 : (ans.length : Int) < 200 := by omega
              have hk1 : Same w ((w.alloc (.cells #[.int .i64 call, .int .i64 2, .int .i64 (-1), .int .i64 cen, .int .i64 ep, .string name, .int .i64 ver, .slice A ans.length c] 31)).alloc (.cells #[.int .i64 0, .int .i64 0, .int .i64 0, .int .i64 0, .int .i64 0, .string ⟨#[]⟩, .int .i64 0, .slice none 0 0] 31)) := ((Keep.refl _ w).alloc _).alloc _
              have HK1 := hid hk1
              have hbox := (Blk.made w 31 #[.int .i64 call, .int .i64 2, .int .i64 (-1), .int .i64 cen, .int .i64 ep, .string name, .int .i64 ver, .slice A ans.length c]).alloc (.cells #[.int .i64 0, .int .i64 0, .int .i64 0, .int .i64 0, .int .i64 0, .string ⟨#[]⟩, .int .i64 0, .slice none 0 0] 31)
              have hres := Blk.made (w.alloc (.cells #[.int .i64 call, .int .i64 2, .int .i64 (-1), .int .i64 cen, .int .i64 ep, .string name, .int .i64 ver, .slice A ans.length c] 31)) 31 #[.int .i64 0, .int .i64 0, .int .i64 0, .int .i64 0, .int .i64 0, .string ⟨#[]⟩, .int .i64 0, .slice none 0 0]
              rw [World.size_alloc] at hres
              have HBX := hid hbox
              have HRES := hid hres
              have ho0 := Own.of_blk (Nat.le_refl _) (Blk.made ((w.alloc (.cells #[.int .i64 call, .int .i64 2, .int .i64 (-1), .int .i64 cen, .int .i64 ep, .string name, .int .i64 ver, .slice A ans.length c] 31)).alloc (.cells #[.int .i64 0, .int .i64 0, .int .i64 0, .int .i64 0, .int .i64 0, .string ⟨#[]⟩, .int .i64 0, .slice none 0 0] 31)) 3 #[]) (Nat.le_refl 0) (by simp [maxLen]) (by simp : (#[] : Array Value).size = 0 * 1) (xs := []) (by simp)
              have HO0 := hid ho0
              have HSR := hid ((H.out.same (hk1.alloc (.cells #[] 3))).src (Keep.refl (fun _ => False) _))
              have HAL := hid (icells_len ans)
              have HT := hid (show icells ans ++ [.int .i64 a] = icells (ans ++ [a]) by simp [icells])
              clear hk1 hbox hres ho0
              go_enter Try.func31, Try.ntmps31
              go_wp2_with (first
                | (at_builtin
                   refine EIn.law2 (.tmp 34) (.tmp 36) (.slice (some ⟨((w.alloc (.cells #[.int .i64 call, .int .i64 2, .int .i64 (-1), .int .i64 cen, .int .i64 ep, .string name, .int .i64 ver, .slice A ans.length c] 31)).alloc (.cells #[.int .i64 0, .int .i64 0, .int .i64 0, .int .i64 0, .int .i64 0, .string ⟨#[]⟩, .int .i64 0, .slice none 0 0] 31)).heap.size, 0, none⟩) 0 0) A ans.length c (by rfl) (by rfl) (by simp [Act.eval]) (by simp [Act.eval]) ((w.alloc (.cells #[.int .i64 call, .int .i64 2, .int .i64 (-1), .int .i64 cen, .int .i64 ep, .string name, .int .i64 ver, .slice A ans.length c] 31)).alloc (.cells #[.int .i64 0, .int .i64 0, .int .i64 0, .int .i64 0, .int .i64 0, .string ⟨#[]⟩, .int .i64 0, .slice none 0 0] 31)).heap.size 0 [] (icells ans) ans.length _ (Nat.zero_add _) rfl HO0.out (by rw [HAL.out]; omega) HSR.out (icells_one _) (by omega) (by unfold maxLen; omega) (by simp) ?_
                   intro A2 c2 w2 ho hg hw
                   have hk12 := ((Keep.refl (fun g => ((w.alloc (.cells #[.int .i64 call, .int .i64 2, .int .i64 (-1), .int .i64 cen, .int .i64 ep, .string name, .int .i64 ver, .slice A ans.length c] 31)).alloc (.cells #[.int .i64 0, .int .i64 0, .int .i64 0, .int .i64 0, .int .i64 0, .string ⟨#[]⟩, .int .i64 0, .slice none 0 0] 31)).heap.size ≤ g) ((w.alloc (.cells #[.int .i64 call, .int .i64 2, .int .i64 (-1), .int .i64 cen, .int .i64 ep, .string name, .int .i64 ver, .slice A ans.length c] 31)).alloc (.cells #[.int .i64 0, .int .i64 0, .int .i64 0, .int .i64 0, .int .i64 0, .string ⟨#[]⟩, .int .i64 0, .slice none 0 0] 31))).alloc (.cells #[] 3)).app HO0.out hg (fun g h1 h2 => h1)
                   have HK12 := hid hk12
                   have hz2 := hk12.size
                   have HO2 := hid (World.ownsRow.alloc ho (.cells #[.int .i64 a] 3))
                   simp only [World.size_alloc] at hz2
                   clear ho hg hw hk12)
                | (at_builtin
                   refine EIn.law2 (.tmp 37) (.tmp 39) (.slice A2 ans.length c2) (some ⟨w2.heap.size, 0, none⟩) 1 1 rfl rfl rfl rfl ((w.alloc (.cells #[.int .i64 call, .int .i64 2, .int .i64 (-1), .int .i64 cen, .int .i64 ep, .string name, .int .i64 ver, .slice A ans.length c] 31)).alloc (.cells #[.int .i64 0, .int .i64 0, .int .i64 0, .int .i64 0, .int .i64 0, .string ⟨#[]⟩, .int .i64 0, .slice none 0 0] 31)).heap.size ans.length (icells ans) [.int .i64 a] (ans.length + 1) _ rfl rfl HO2.out rfl (fun _ => ⟨_, rfl, src_new rfl⟩) (by intro u hu; simp at hu; subst hu; rfl) (by omega) (by unfold maxLen; omega) (by simp only [World.size_alloc]; omega) ?_
                   intro A3 c3 w3 ho hg hw
                   have hk13 := (HK12.out.alloc (.cells #[.int .i64 a] 3)).app HO2.out hg (fun g h1 h2 => h1)
                   have hb3 := HBX.out.keep hk13 (by simp only [World.size_alloc]; omega)
                   have hr3 := HRES.out.keep hk13 (by simp only [World.size_alloc]; omega)
                   have d0 := hb3.at_ 0
                   have e0 := hb3.free 0
                   have z0 := hr3.at_ 0
                   have y0 := hr3.free 0
                   have d1 := hb3.at_ 1
                   have e1 := hb3.free 1
                   have z1 := hr3.at_ 1
                   have y1 := hr3.free 1
                   have d2 := hb3.at_ 2
                   have e2 := hb3.free 2
                   have z2 := hr3.at_ 2
                   have y2 := hr3.free 2
                   have d3 := hb3.at_ 3
                   have e3 := hb3.free 3
                   have z3 := hr3.at_ 3
                   have y3 := hr3.free 3
                   have d4 := hb3.at_ 4
                   have e4 := hb3.free 4
                   have z4 := hr3.at_ 4
                   have y4 := hr3.free 4
                   have d5 := hb3.at_ 5
                   have e5 := hb3.free 5
                   have z5 := hr3.at_ 5
                   have y5 := hr3.free 5
                   have d6 := hb3.at_ 6
                   have e6 := hb3.free 6
                   have z6 := hr3.at_ 6
                   have y6 := hr3.free 6
                   have d7 := hb3.at_ 7
                   have e7 := hb3.free 7
                   have z7 := hr3.at_ 7
                   have y7 := hr3.free 7
                   have HB3 := hid hb3
                   have HR3 := hid hr3
                   have HK3 := hid (HK1.out.trans hk13 (fun i hi hs => by simp at hs; omega))
                   have HO3 := hid ho
                   have hlt3 := hr3.lt
                   simp at d0 d1 d2 d3 d4 d5 d6 d7 z0 z1 z2 z3 z4 z5 z6 z7
                   clear ho hg hw hk13 hb3 hr3))
              have hlen : (ans ++ [a]).length = ans.length + 1 := by simp
              have hkA := (Keep.refl (· = w.heap.size) w3).put 7 (.slice A3 (ans.length + 1) c3)
              have hrA := HR3.out.keep hkA (by omega)
              have hkB := (((((((((Keep.refl (· = w.heap.size + 1) (w3.setCell ⟨w.heap.size, 7, none⟩ (.slice A3 (ans.length + 1) c3))).put 0 (.int .i64 call)).put 1 (.int .i64 2)).put 2 (.int .i64 (-1))).put 3 (.int .i64 cen)).put 4 (.int .i64 ep)).put 5 (.string name)).put 6 (.int .i64 ver)).put 7 (.slice A3 (ans.length + 1) c3))
              have hrB := ((((((((hrA.put 0 (.int .i64 call)).put 1 (.int .i64 2)).put 2 (.int .i64 (-1))).put 3 (.int .i64 cen)).put 4 (.int .i64 ep)).put 5 (.string name)).put 6 (.int .i64 ver)).put 7 (.slice A3 (ans.length + 1) c3))
              have hkC := (hkA.wide (T := fun i => i = w.heap.size ∨ i = w.heap.size + 1) (fun _ _ e => .inl e)).trans (hkB.wide (T := fun i => i = w.heap.size ∨ i = w.heap.size + 1) (fun _ _ e => .inr e)) (fun _ _ e => e)
              generalize (((((((((w3.setCell ⟨w.heap.size, 7, none⟩ (.slice A3 (ans.length + 1) c3)).setCell ⟨w.heap.size + 1, 0, none⟩ (.int .i64 call)).setCell ⟨w.heap.size + 1, 1, none⟩ (.int .i64 2)).setCell ⟨w.heap.size + 1, 2, none⟩ (.int .i64 (-1))).setCell ⟨w.heap.size + 1, 3, none⟩ (.int .i64 cen)).setCell ⟨w.heap.size + 1, 4, none⟩ (.int .i64 ep)).setCell ⟨w.heap.size + 1, 5, none⟩ (.string name)).setCell ⟨w.heap.size + 1, 6, none⟩ (.int .i64 ver)).setCell ⟨w.heap.size + 1, 7, none⟩ (.slice A3 (ans.length + 1) c3)) = WW at *
              have q0 := hrB.at_ 0
              have q1 := hrB.at_ 1
              have q2 := hrB.at_ 2
              have q3 := hrB.at_ 3
              have q4 := hrB.at_ 4
              have q5 := hrB.at_ 5
              have q6 := hrB.at_ 6
              have q7 := hrB.at_ 7
              simp at q0 q1 q2 q3 q4 q5 q6 q7
              refine bodyPost_ret (v := .tuple #[.agg #[.int .i64 call, .int .i64 2, .int .i64 (-1), .int .i64 cen, .int .i64 ep, .string name, .int .i64 ver, .slice A3 (ans.length + 1) c3], .int .i64 0]) (by simp [results, Try.results31, go_sem, q0, q1, q2, q3, q4, q5, q6, q7]) rfl ⟨A3, c3, by simp [CL.cells], ?_, HK3.out.trans hkC (fun i hi e => by omega)⟩
              simp only
              rw [hlen, ← HT.out]
              exact (HO3.out.keep hkC (fun i hi _ hs => by simp only [World.size_alloc] at hi; omega)).sl (fun g hg ha => by have := hAv g ha; simp only [World.size_alloc] at hg; omega)
          | true =>
            have hE : sayE ⟨call, 4, since, cen, ep, name, ver, ans⟩ a = 8 := by simp [sayE, h0, h15, hst2, hbn]
            have hS : saySR ⟨call, 4, since, cen, ep, name, ver, ans⟩ a = ⟨call, 4, since, cen, ep, name, ver, ans⟩ := by unfold saySR; rw [hE]; simp
            rw [hE, hS]
            clear hE hS
            go_enter Try.func31, Try.ntmps31
            go_wp2_with (go_at_call 24; refine (HT.out _ _ _).mono ?_; rintro e1 w1 ⟨rfl, rfl⟩; first | rw [hbe] | rw [hbt])
            refine bodyPost_ret (v := .tuple #[.agg #[.int .i64 (call), .int .i64 (4), .int .i64 (since), .int .i64 (cen), .int .i64 (ep), .string (name), .int .i64 (ver), .slice A ans.length c], .int .i64 8]) (by simp [results, Try.results31, go_sem] <;> omega) rfl ⟨A, c, rfl, H.out.same (((Keep.refl _ w).alloc _).alloc _), ((Keep.refl _ w).alloc _).alloc _⟩
        · have ghst4 : (st == (4 : Int)) = false := by simpa using hst4
          have hE : sayE ⟨call, st, since, cen, ep, name, ver, ans⟩ a = 8 := by simp [sayE, h0, h15, hst2, hst4]
          have hS : saySR ⟨call, st, since, cen, ep, name, ver, ans⟩ a = ⟨call, st, since, cen, ep, name, ver, ans⟩ := by unfold saySR; rw [hE]; simp
          rw [hE, hS]
          clear hE hS
          go_enter Try.func31, Try.ntmps31
          go_wp2_with (go_at_call 24; refine (HT.out _ _ _).mono ?_; rintro e1 w1 ⟨rfl, rfl⟩; first | rw [hbe] | rw [hbt])
          refine bodyPost_ret (v := .tuple #[.agg #[.int .i64 (call), .int .i64 (st), .int .i64 (since), .int .i64 (cen), .int .i64 (ep), .string (name), .int .i64 (ver), .slice A ans.length c], .int .i64 8]) (by simp [results, Try.results31, go_sem] <;> omega) rfl ⟨A, c, rfl, H.out.same (((Keep.refl _ w).alloc _).alloc _), ((Keep.refl _ w).alloc _).alloc _⟩
end
end Go.Proofs.Ytkkenfgpmoediaa

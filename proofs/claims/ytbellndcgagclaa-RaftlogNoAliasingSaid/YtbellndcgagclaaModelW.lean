import Derived.Test.YtbellndcgagclaaCommonW
namespace Go.Proofs.Ytbellndcgagclaa
open Go.RowKit

/-! ## The law MatchesModel -/
theorem Both.rest {w : World} {B0 lb : Nat} {X : Option Addr} {n c : Nat} {q : List PE} (h : Both w B0 lb X n c q) (hn : q.length ≤ 1000) : Calls Try.prog 19 #[.pointer (some ⟨lb, 0, none⟩), .slice X n c] w (PlainPost w true) := by
  obtain ⟨r, A, d, l, m, h1, h2, h3, h4⟩ := h
  refine agrees_any w _ _ lb r A d l X n c m h1 h2 (by rw [h3, h4]) ?_
  have := congrArg List.length h3
  simp at this
  omega
set_option maxHeartbeats 8000000 in
set_option maxRecDepth 100000 in
theorem raftlogMatchesModel_walk (W : World) (X : Option Addr) (n c : Nat) (l : List LAct) (h : As W (fun _ => False) X n c l) (hf : Few l) :
    Calls Try.prog 5 #[.slice X n c] W (PlainPost W true) := by
  have HS := hid (fun w (hs : Same W w) => small_any w (fun _ => False) X n c l (h.same hs) hf)
  have HA := hid h
  have Hl := hid h.len
  clear h hf
  by_cases hs1 : smallA l = true
  · rw [hs1] at HS
    have hl := smallA_ok hs1
    have HT := hid hl.2
    have hn : n ≤ 40 := by have := Hl.out; omega
    clear hs1 hl
    go_enter Try.func5, Try.ntmps5
    go_wp2_with (first
      | (go_at_call 11; (with_reducible refine (wakes_any _).mono ?_); rintro e w1 ⟨rfl, hk1⟩
         have HK1 := hid hk1
         have HSa := hid (HS.out _ hk1)
         clear hk1)
      | (go_at_call 12; (with_reducible refine HSa.out.mono ?_); rintro e w2 ⟨rfl, hk2⟩
         have HK2 := hid (HK1.out.then hk2)
         have HL := hid (HA.out.same HK2.out).old
         have hmk := hid (IsLog.made w2 (· < w2.heap.size) (fun i hi => hi))
         clear hk2 HSa)
      | (go_at_call 17; (with_reducible refine (new_any _).mono ?_); rintro e w3 ⟨rfl, rfl⟩))
    go_loopw [4, 17] (fun x i wr => ∃ k m : Nat, ∃ Y d, k ≤ n ∧ i = .int .i64 k ∧ x = .slice Y m d ∧ m ≤ 120 ∧ Hid (Both wr w2.heap.size w2.heap.size Y m d (playQ (l.take k))) ∧ Hid (Keep (w2.heap.size ≤ ·) w2 wr)) (fun _ i _ => n - (RowKit.intOf i).toNat)
    case atStart => exact ⟨0, 0, none, 0, by omega, rfl, rfl, by omega, hid ⟨none, none, 0, [], [], hmk.out, Ls.nil _ _, by simp [playQ], by simp [playQ]⟩, hid ((Keep.refl _ w2).alloc _)⟩
    case round =>
      obtain ⟨k, m, Y, d, hk, rfl, rfl, hm, HBo, HK⟩ := hrel
      by_cases hkn : k < n
      · obtain ⟨a, ha⟩ := get_some (l := l) (k := k) (by have := Hl.out; omega)
        have Ha := hid ha
        have hLx := HL.out.keep HK.out (fun _ _ hs => hs)
        obtain ⟨b, off, rfl, c0, c1, c2, c3⟩ := hLx.at_ ha
        obtain ⟨b', off', e', d0, d1, d2, d3⟩ := (hLx.same ((Keep.refl (fun _ => False) wr).alloc (.cells #[.bool false, .int .i64 0, .int .i64 0, .slice none 0 0] 33))).at_ ha
        cases e'
        have hLs := hid (hLx.el a (List.mem_of_getElem? ha))
        have hmq := HBo.out.len
        have hk1 : (k : Int) < (n : Int) := by omega
        have hsum : m + a.n ≤ 120 ∧ (actQ (playQ (l.take k)) a).length ≤ 120 := by
          have h1 := HT.out
          have h2 := ents_mono l (k + 1)
          have h3 := playQ_len l k (by have := Hl.out; omega)
          have h4 := actQ_len (playQ (l.take k)) a
          rw [ents_snoc ha, List.length_append, hLs.out.len] at h2
          have h5 := hLs.out.len
          omega
        have hb := (Blk.made wr 33 #[.bool false, .int .i64 0, .int .i64 0, .slice none 0 0])
        have f0 := hb.free 0
        have f1 := hb.free 1
        have f2 := hb.free 2
        have f3 := hb.free 3
        have z0 : (wr.alloc (.cells #[.bool false, .int .i64 0, .int .i64 0, .slice none 0 0] 33)).cell? ⟨wr.heap.size, 0, none⟩ = some (.bool false) := hb.at_ 0
        have z1 : (wr.alloc (.cells #[.bool false, .int .i64 0, .int .i64 0, .slice none 0 0] 33)).cell? ⟨wr.heap.size, 1, none⟩ = some (.int .i64 0) := hb.at_ 1
        have z2 : (wr.alloc (.cells #[.bool false, .int .i64 0, .int .i64 0, .slice none 0 0] 33)).cell? ⟨wr.heap.size, 2, none⟩ = some (.int .i64 0) := hb.at_ 2
        have z3 : (wr.alloc (.cells #[.bool false, .int .i64 0, .int .i64 0, .slice none 0 0] 33)).cell? ⟨wr.heap.size, 3, none⟩ = some (.slice none 0 0) := hb.at_ 3
        have hb2 := (Blk.made wr 33 #[.bool a.put, .int .i64 a.prev, .int .i64 a.term, .slice a.X a.n a.c])
        have y0 : (wr.alloc (.cells #[.bool a.put, .int .i64 a.prev, .int .i64 a.term, .slice a.X a.n a.c] 33)).cell? ⟨wr.heap.size, 0, none⟩ = some (.bool a.put) := hb2.at_ 0
        have y1 : (wr.alloc (.cells #[.bool a.put, .int .i64 a.prev, .int .i64 a.term, .slice a.X a.n a.c] 33)).cell? ⟨wr.heap.size, 1, none⟩ = some (.int .i64 a.prev) := hb2.at_ 1
        have y2 : (wr.alloc (.cells #[.bool a.put, .int .i64 a.prev, .int .i64 a.term, .slice a.X a.n a.c] 33)).cell? ⟨wr.heap.size, 2, none⟩ = some (.int .i64 a.term) := hb2.at_ 2
        have y3 : (wr.alloc (.cells #[.bool a.put, .int .i64 a.prev, .int .i64 a.term, .slice a.X a.n a.c] 33)).cell? ⟨wr.heap.size, 3, none⟩ = some (.slice a.X a.n a.c) := hb2.at_ 3
        have hsv : Same wr (wr.alloc (.cells #[.bool a.put, .int .i64 a.prev, .int .i64 a.term, .slice a.X a.n a.c] 33)) := (Keep.refl _ wr).alloc _
        have HSv := hid hsv
        have HD := hid (do_any _ w2.heap.size w2.heap.size Y m d _ (HBo.out.keep hsv) (Nat.le_trans HK.out.size hsv.size) (by omega) a (hLs.out.same hsv) (by omega))
        clear ha hb hb2 hsv hLx hmq
        go_wp2_with (first
          | (go_at_call 18; (with_reducible refine HD.out.mono ?_); rintro e w5 ⟨Y2, m2, d2, rfl, hB2, hk2⟩
             have HB2 := hid hB2
             have HK5 := hid (HK.out.trans ((HSv.out.wide (fun _ _ f => f.elim)).trans hk2 (fun _ _ hs => hs)) (fun _ _ hs => hs))
             have HR := hid (hB2.rest (by omega))
             clear hB2 hk2 HD)
          | (go_at_call 19; (with_reducible refine HR.out.mono ?_); rintro e w6 ⟨rfl, hk6⟩
             have HK6 := hid (HK5.out.trans hk6 (fun _ _ f => f.elim))
             have HB6 := hid (HB2.out.keep hk6)
             clear hk6 HR))
        go_roundw
        case rel => exact ⟨k + 1, m2, Y2, d2, by omega, by go_num, rfl, by have := HB2.out.len; omega, hid (by rw [playQ_snoc Ha.out]; exact HB6.out), HK6⟩
        case measure => simp [RowKit.intOf]; omega
      · obtain rfl : k = n := by omega
        go_wp2_with fail
        go_ret
        exact ⟨rfl, HK2.out.then HK.out.own⟩
  · have hs1' : smallA l = false := by simpa using hs1
    rw [hs1'] at HS
    clear hs1 hs1'
    go_enter Try.func5, Try.ntmps5
    go_wp2_with (first
      | (go_at_call 11; (with_reducible refine (wakes_any _).mono ?_); rintro e w1 ⟨rfl, hk1⟩
         have HK1 := hid hk1
         have HSa := hid (HS.out _ hk1)
         clear hk1)
      | (go_at_call 12; (with_reducible refine HSa.out.mono ?_); rintro e w2 ⟨rfl, hk2⟩
         have HK2 := hid (HK1.out.then hk2)
         clear hk2 HSa))
    go_ret
    exact ⟨rfl, HK2.out⟩
end Go.Proofs.Ytbellndcgagclaa

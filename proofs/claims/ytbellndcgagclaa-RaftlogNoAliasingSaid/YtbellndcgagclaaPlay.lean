import Derived.Test.YtbellndcgagclaaBoth
namespace Go.Proofs.Ytbellndcgagclaa
open Go.RowKit

theorem EnOk.old {w : World} {Av : Nat → Prop} {e : En} (h : EnOk w Av e) : EnOk w (w.heap.size ≤ ·) e := ⟨h.body.old, h.bytes, h.cap⟩
theorem Ls.old {w : World} {Av : Nat → Prop} {X : Option Addr} {n c : Nat} {l : List En} (h : Ls w Av X n c l) : Ls w (w.heap.size ≤ ·) X n c l := ⟨h.len, h.sl.old, fun e he => (h.el e he).old, h.cap⟩
theorem As.old {w : World} {Av : Nat → Prop} {X : Option Addr} {n c : Nat} {l : List LAct} (h : As w Av X n c l) : As w (w.heap.size ≤ ·) X n c l := ⟨h.len, h.sl.old, fun e he => (h.el e he).old, h.cap⟩
def playQ (l : List LAct) : List PE := l.foldl actQ []
theorem playQ_snoc {l : List LAct} {k : Nat} {a : LAct} (h : l[k]? = some a) : playQ (l.take (k + 1)) = actQ (playQ (l.take k)) a := by
  rw [take_snoc h]; simp [playQ]
theorem playQ_len (l : List LAct) : ∀ k, k ≤ l.length → (playQ (l.take k)).length ≤ (ents (l.take k)).length
  | 0, _ => by simp [playQ]
  | k + 1, h => by
    obtain ⟨a, ha⟩ := get_some (l := l) (k := k) (by omega)
    have h1 := playQ_len l k (by omega)
    rw [playQ_snoc ha, ents_snoc ha, List.length_append]
    have := actQ_len (playQ (l.take k)) a
    omega
def PlayPost (w : World) (q : List PE) (e : Ending) (w' : World) : Prop :=
  ∃ lb X n c, e = .returned (.tuple #[.pointer (some ⟨lb, 0, none⟩), .slice X n c]) ∧ Both w' w.heap.size lb X n c q ∧ Same w w' ∧ w.heap.size ≤ lb
theorem Keep.own {w w' : World} (h : Keep (w.heap.size ≤ ·) w w') : Same w w' := h.wide (fun i hi hs => by omega)
set_option maxHeartbeats 8000000 in
set_option maxRecDepth 100000 in
theorem play_any (w : World) (Av : Nat → Prop) (X : Option Addr) (n c : Nat) (l : List LAct) (h : As w Av X n c l) (ht : (ents l).length ≤ 120) (hl : l.length ≤ 40) : Calls Try.prog 13 #[.slice X n c] w (PlayPost w (playQ l)) := by
  have Hl := hid h.len
  have HL := hid h.old
  have HT := hid ht
  have hn : n ≤ 40 := by have := h.len; omega
  clear h ht hl
  have hmk := hid (IsLog.made w (· < w.heap.size) (fun i hi => hi))
  go_enter Try.func13, Try.ntmps13
  go_wp2_with (first
    | (go_at_call 17; refine (new_any _).mono ?_; rintro e w1 ⟨rfl, rfl⟩))
  go_loopw [5, 11] (fun x i wr => ∃ k m : Nat, ∃ Y d, k ≤ n ∧ i = .int .i64 k ∧ x = .slice Y m d ∧ m ≤ 120 ∧ Hid (Both wr w.heap.size w.heap.size Y m d (playQ (l.take k))) ∧ Hid (Keep (w.heap.size ≤ ·) w wr)) (fun _ i _ => n - (RowKit.intOf i).toNat)
  case atStart => exact ⟨0, 0, none, 0, by omega, rfl, rfl, by omega, hid ⟨none, none, 0, [], [], hmk.out, Ls.nil _ _, by simp [playQ], by simp [playQ]⟩, hid ((Keep.refl _ w).alloc _)⟩
  case round =>
    obtain ⟨k, m, Y, d, hk, rfl, rfl, hm, HBo, HK⟩ := hrel
    by_cases hkn : k < n
    · obtain ⟨a, ha⟩ := get_some (l := l) (k := k) (by have := Hl.out; omega)
      have Ha := hid ha
      have hLx := HL.out.keep HK.out (fun _ _ hs => hs)
      obtain ⟨b, off, rfl, c0, c1, c2, c3⟩ := hLx.at_ ha
      obtain ⟨b', off', e', d0, d1, d2, d3⟩ := (hLx.same ((Keep.refl (fun _ => False) wr).alloc (.cells #[.bool false, .int .i64 0, .int .i64 0, .slice none 0 0] 33))).at_ ha
      cases e'
      have hLs := hid (hLx.el a (List.mem_of_getElem? ha))
      have hmq := HBo.out.len
      have hk1 : (k : Int) < (n : Int) := by omega
      have hsum : m + a.n ≤ 120 ∧ (actQ (playQ (l.take k)) a).length ≤ 120 := by
        have h1 := HT.out
        have h2 := ents_mono l (k + 1)
        have h3 := playQ_len l k (by have := Hl.out; omega)
        have h4 := actQ_len (playQ (l.take k)) a
        rw [ents_snoc ha, List.length_append, hLs.out.len] at h2
        have h5 := hLs.out.len
        omega
      have hb := (Blk.made wr 33 #[.bool false, .int .i64 0, .int .i64 0, .slice none 0 0])
      have f0 := hb.free 0
      have f1 := hb.free 1
      have f2 := hb.free 2
      have f3 := hb.free 3
      have z0 : (wr.alloc (.cells #[.bool false, .int .i64 0, .int .i64 0, .slice none 0 0] 33)).cell? ⟨wr.heap.size, 0, none⟩ = some (.bool false) := hb.at_ 0
      have z1 : (wr.alloc (.cells #[.bool false, .int .i64 0, .int .i64 0, .slice none 0 0] 33)).cell? ⟨wr.heap.size, 1, none⟩ = some (.int .i64 0) := hb.at_ 1
      have z2 : (wr.alloc (.cells #[.bool false, .int .i64 0, .int .i64 0, .slice none 0 0] 33)).cell? ⟨wr.heap.size, 2, none⟩ = some (.int .i64 0) := hb.at_ 2
      have z3 : (wr.alloc (.cells #[.bool false, .int .i64 0, .int .i64 0, .slice none 0 0] 33)).cell? ⟨wr.heap.size, 3, none⟩ = some (.slice none 0 0) := hb.at_ 3
      have hb2 := (Blk.made wr 33 #[.bool a.put, .int .i64 a.prev, .int .i64 a.term, .slice a.X a.n a.c])
      have y0 : (wr.alloc (.cells #[.bool a.put, .int .i64 a.prev, .int .i64 a.term, .slice a.X a.n a.c] 33)).cell? ⟨wr.heap.size, 0, none⟩ = some (.bool a.put) := hb2.at_ 0
      have y1 : (wr.alloc (.cells #[.bool a.put, .int .i64 a.prev, .int .i64 a.term, .slice a.X a.n a.c] 33)).cell? ⟨wr.heap.size, 1, none⟩ = some (.int .i64 a.prev) := hb2.at_ 1
      have y2 : (wr.alloc (.cells #[.bool a.put, .int .i64 a.prev, .int .i64 a.term, .slice a.X a.n a.c] 33)).cell? ⟨wr.heap.size, 2, none⟩ = some (.int .i64 a.term) := hb2.at_ 2
      have y3 : (wr.alloc (.cells #[.bool a.put, .int .i64 a.prev, .int .i64 a.term, .slice a.X a.n a.c] 33)).cell? ⟨wr.heap.size, 3, none⟩ = some (.slice a.X a.n a.c) := hb2.at_ 3
      have hsv : Same wr (wr.alloc (.cells #[.bool a.put, .int .i64 a.prev, .int .i64 a.term, .slice a.X a.n a.c] 33)) := (Keep.refl _ wr).alloc _
      have HSv := hid hsv
      have HD := hid (do_any _ w.heap.size w.heap.size Y m d _ (HBo.out.keep hsv) (Nat.le_trans HK.out.size hsv.size) (by omega) a (hLs.out.same hsv) (by omega))
      clear ha hb hb2 hsv hLx hmq
      go_wp2_with (first
        | (go_at_call 18; refine HD.out.mono ?_; rintro e w2 ⟨Y2, m2, d2, rfl, hB2, hk2⟩
           have HB2 := hid hB2
           have HK2 := hid (HK.out.trans ((HSv.out.wide (fun _ _ f => f.elim)).trans hk2 (fun _ _ hs => hs)) (fun _ _ hs => hs))
           clear hB2 hk2))
      go_roundw
      case rel => exact ⟨k + 1, m2, Y2, d2, by omega, by go_num, rfl, by have := HB2.out.len; omega, hid (by rw [playQ_snoc Ha.out]; exact HB2.out), HK2⟩
      case measure => simp [RowKit.intOf]; omega
    · obtain rfl : k = n := by omega
      go_wp2_with fail
      go_ret2
      refine ⟨w.heap.size, Y, m, d, rfl, ?_, HK.out.own, Nat.le_refl _⟩
      have h := HBo.out
      rwa [List.take_of_length_le (by have := Hl.out; omega)] at h
end Go.Proofs.Ytbellndcgagclaa

import Derived.Test.YtbellndcgagclaaPlay
namespace Go.Proofs.Ytbellndcgagclaa
open Go.RowKit

/-- a log that holds q and avoids Av -/
def LogAt (w : World) (Av : Nat → Prop) (lb : Nat) (q : List PE) : Prop := ∃ r A c l, IsLog w Av lb r A c l ∧ l.map En.pe = q
theorem LogAt.same {w w' : World} {Av : Nat → Prop} {lb : Nat} {q : List PE} (h : LogAt w Av lb q) (hk : Same w w') : LogAt w' Av lb q := by
  obtain ⟨r, A, c, l, h1, h2⟩ := h; exact ⟨r, A, c, l, h1.same hk, h2⟩
theorem LogAt.wide {w : World} {Av Av' : Nat → Prop} {lb : Nat} {q : List PE} (h : LogAt w Av lb q) (hS : ∀ i, i < w.heap.size → Av' i → Av i) : LogAt w Av' lb q := by
  obtain ⟨r, A, c, l, h1, h2⟩ := h; exact ⟨r, A, c, l, h1.wide hS, h2⟩
theorem LogPost.at_ {w w' : World} {Av : Nat → Prop} {lb : Nat} {r : Option Nat} {q : List PE} {v : Value} {e : Ending} {A : Option Addr} {c : Nat} {l : List En} (h : LogPost w Av lb r q v e w') (hI : IsLog w Av lb r A c l) :
    e = .returned v ∧ LogAt w' Av lb q ∧ Keep (fun i => ¬ Av i) w w' := by
  obtain ⟨r', A', c', l', he, h1, h2, h3, h4⟩ := h
  exact ⟨he, ⟨r', A', c', l', h1, h2⟩, h3.wide (fun i _ hs => by
    rcases hs with rfl | hs
    · exact hI.lbv
    · exact (hI.rv i hs.symm).1)⟩
def TwoPost (w : World) (Av : Nat → Prop) (lb : Nat) (q : List PE) (v : Value) (e : Ending) (w' : World) : Prop := e = .returned v ∧ LogAt w' Av lb q ∧ Keep (fun i => ¬ Av i) w w'
theorem append_at (w : World) (Av : Nat → Prop) (hAv : ∀ i, Av i → i < w.heap.size) (lb : Nat) (q : List PE) (h : LogAt w Av lb q) (hn : q.length ≤ 1000) (x : En) (Ax : Nat → Prop) (hx : EnOk w Ax x) :
    Calls Try.prog 29 #[.pointer (some ⟨lb, 0, none⟩), x.val] w (TwoPost w Av lb (addL id q x.pe) (.tuple #[.int .i64 (addN id q x.pe), .int .i64 (addErr id q x.pe)])) := by
  obtain ⟨r, A, c, l, h1, rfl⟩ := h
  refine (append_any w Av hAv lb r A c l h1 (by simpa using hn) x Ax hx).mono fun e w' hP => ?_
  rw [addL_map] at hP
  rw [addN_map, addErr_map]
  exact hP.at_ h1
theorem after_at (w : World) (Av : Nat → Prop) (hAv : ∀ i, Av i → i < w.heap.size) (lb : Nat) (q : List PE) (h : LogAt w Av lb q) (hn : q.length ≤ 1000) (es : List En) (m z : Nat) (Z : Option Addr) (h2 : Ls w (fun i => ¬ Av i) Z m z es) (hm : m ≤ 1000) (prev term : Int) :
    Calls Try.prog 16 #[.pointer (some ⟨lb, 0, none⟩), .int .i64 prev, .int .i64 term, .slice Z m z] w
      (TwoPost w Av lb (putL id q prev term (es.map En.pe)) (.tuple #[.bool (putOk id q prev term (es.map En.pe)), .int .i64 (putE id prev term (es.map En.pe))])) := by
  obtain ⟨r, A, c, l, h1, rfl⟩ := h
  refine (appendAfter_any w Av hAv lb r A c l es l.length m z Z h1 rfl (h2.wide (fun i _ hs => by
    rcases hs with rfl | hs
    · exact h1.lbv
    · exact (h1.rv i hs.symm).1)) (by simpa using hn) hm prev term).mono fun e w' hP => ?_
  unfold PutLog at hP
  rw [putL_map] at hP
  rw [putOk_map, putE_map]
  exact hP.at_ h1
theorem last_at (w : World) (Av : Nat → Prop) (lb : Nat) (q : List PE) (h : LogAt w Av lb q) (hn : q.length ≤ 1000) : Calls Try.prog 35 #[.pointer (some ⟨lb, 0, none⟩)] w (LastPost w q.length (lastT id q)) := by
  obtain ⟨r, A, c, l, h1, rfl⟩ := h
  have := last_any w Av lb r A c l h1 (by simpa using hn)
  rw [← lastT_map] at this
  rwa [List.length_map]
def UpPostQ (w : World) (q : List PE) (n t : Int) (e : Ending) (w' : World) : Prop := e = .returned (.bool (decide (lastT id q < t) || (decide (t = lastT id q) && decide ((q.length : Int) ≤ n)))) ∧ Same w w'
theorem uptodate_at (w : World) (Av : Nat → Prop) (lb : Nat) (q : List PE) (h : LogAt w Av lb q) (hn : q.length ≤ 1000) (n t : Int) : Calls Try.prog 27 #[.pointer (some ⟨lb, 0, none⟩), .int .i64 n, .int .i64 t] w (UpPostQ w q n t) := by
  obtain ⟨r, A, c, l, h1, rfl⟩ := h
  have := uptodate_any w Av lb r A c l h1 (by simpa using hn) n t
  unfold UpPost at this
  unfold UpPostQ
  rw [lastT_map, List.length_map]
  exact this
def wakeQ : List PE := [(1, 1, []), (1, 1, []), (2, 1, [])]
def wakeAv (w : World) (i : Nat) : Prop := i < w.heap.size ∨ i = w.heap.size + 1
theorem wake_at {_w w2 : World} {k : Nat} {q : List PE} {lb : Nat} {Av : Nat → Prop} (h : LogAt w2 Av lb (addL id (wakeQ.take k) q.head!)) (e : addL id (wakeQ.take k) q.head! = wakeQ.take (k + 1)) : LogAt w2 Av lb (wakeQ.take (k + 1)) := e ▸ h
set_option maxHeartbeats 2000000 in
set_option maxRecDepth 100000 in
theorem wakes_any (w : World) : Calls Try.prog 11 #[] w (PlainPost w true) := by
  have hm0 := (IsLog.made w (· < w.heap.size) (fun i hi => hi)).wide (Av' := wakeAv w) (fun i hi hs => by
    simp at hi
    rcases hs with hs | hs
    · exact hs
    · omega)
  have HL0 := hid (show LogAt (w.alloc (.cells #[.slice none 0 0] 73)) (wakeAv w) w.heap.size [] from ⟨_, _, _, _, hm0, rfl⟩)
  have HB0 := hid (show Blk ((w.alloc (.cells #[.slice none 0 0] 73)).alloc (.cells #[.int .i64 1, .int .i64 1, .int .i64 2] 2)) (w.heap.size + 1) 2 #[.int .i64 1, .int .i64 1, .int .i64 2] by
    have := Blk.made (w.alloc (.cells #[.slice none 0 0] 73)) 2 #[.int .i64 1, .int .i64 1, .int .i64 2]
    rwa [World.size_alloc] at this)
  clear hm0
  go_enter Try.func11, Try.ntmps11
  go_wp2_with (first
    | (go_at_call 17; refine (new_any _).mono ?_; rintro e w1 ⟨rfl, rfl⟩))
  go_loopw [15] (fun i wr => ∃ k : Nat, k ≤ 3 ∧ i = .int .i64 k ∧ Hid (LogAt wr (wakeAv w) w.heap.size (wakeQ.take k)) ∧ Hid (Blk wr (w.heap.size + 1) 2 #[.int .i64 1, .int .i64 1, .int .i64 2]) ∧ Hid (Same w wr)) (fun i _ => 3 - (RowKit.intOf i).toNat)
  case atStart => exact ⟨0, by omega, rfl, hid (HL0.out.same ((Keep.refl _ _).alloc _)), HB0, hid (((Keep.refl _ w).alloc _).alloc _)⟩
  case round =>
    obtain ⟨k, hk, rfl, HL, HB, HK⟩ := hrel
    have hsz := HK.out.size
    have hsz2 := HB.out.lt
    by_cases hk3 : k < 3
    · obtain ⟨t, ht, hadd, hE⟩ : ∃ t : Int, wr.cell? ⟨w.heap.size + 1, k, none⟩ = some (.int .i64 t) ∧ addL id (wakeQ.take k) (t, 1, []) = wakeQ.take (k + 1) ∧ addErr id (wakeQ.take k) (t, 1, []) = 0 := by
        rw [HB.out.at_]
        obtain rfl | rfl | rfl : k = 0 ∨ k = 1 ∨ k = 2 := by omega
        · exact ⟨1, rfl, by decide +kernel, by decide +kernel⟩
        · exact ⟨1, rfl, by decide +kernel, by decide +kernel⟩
        · exact ⟨2, rfl, by decide +kernel, by decide +kernel⟩
      have HA := hid (fun W (hs : Same wr W) => append_at W (wakeAv w) (fun i hi => by
        have := hs.size
        rcases hi with hi | hi <;> omega) w.heap.size (wakeQ.take k) (HL.out.same hs) (by simp [wakeQ]; omega) ⟨t, 1, none, 0, 0, []⟩ (fun _ => False) ⟨Sl.nil _ _ _ _, by simp, Nat.le_refl _⟩)
      simp only [En.pe] at HA
      rw [hadd, hE] at HA
      unfold En.val at HA
      generalize addN id (wakeQ.take k) (t, 1, []) = N at *
      have hk1 : (k : Int) < 3 := by omega
      clear hadd hE
      go_wp2_with (first
        | (go_at_call 34; refine (entry_any _ _).mono ?_; rintro e w2 ⟨rfl, hk2⟩
           unfold En.val
           have HA2 := hid (HA.out _ hk2)
           have HK2 := hid hk2
           clear hk2)
        | (go_at_call 29; refine HA2.out.mono ?_; rintro e w3 ⟨rfl, hl3, hk3'⟩
           have HL3 := hid hl3
           have HB3 := hid ((HB.out.keep HK2.out (fun f => f)).keep hk3' (fun hn => hn (.inr rfl)))
           have HK3 := hid ((HK.out.then HK2.out).trans hk3' (fun i hi hn => hn (.inl hi)))
           clear hl3 hk3'))
      go_roundw
      case rel => exact ⟨k + 1, by omega, by go_num, HL3, HB3, HK3⟩
      case measure => simp [RowKit.intOf]; omega
    · obtain rfl : k = 3 := by omega
      have hAvr : Hid (∀ i, wakeAv w i → i < wr.heap.size) := hid (fun i hi => by rcases hi with hi | hi <;> omega)
      have HA := hid (fun W (hs : Same wr W) => after_at (W.alloc (.cells #[.int .i64 3, .int .i64 1, .slice none 0 0] 46)) (fun i => wakeAv w i ∨ i = W.heap.size) (fun i hi => by
          have := hs.size
          rcases hi with hi | hi
          · have := hAvr.out i hi
            simp; omega
          · simp; omega) w.heap.size (wakeQ.take 3) (((HL.out.same hs).wide (fun i hi hs => by
            rcases hs with hs | hs
            · exact hs
            · omega)).same ((Keep.refl _ W).alloc _)) (by simp [wakeQ])
        [⟨3, 1, none, 0, 0, []⟩] 1 1 (some ⟨W.heap.size, 0, none⟩) ⟨rfl, Sl.of_blk (Blk.made W 46 #[.int .i64 3, .int .i64 1, .slice none 0 0]) rfl (fun hn => hn (.inr rfl)), by
          intro e he
          simp at he
          subst he
          exact ⟨Sl.nil _ _ _ _, by simp, Nat.le_refl _⟩, by omega⟩ (by omega) 1 1)
      have e1 : putL id (wakeQ.take 3) 1 1 [(3, 1, [])] = [(1, 1, []), (3, 1, [])] := by decide +kernel
      have e2 : putOk id (wakeQ.take 3) 1 1 [(3, 1, [])] = true := by decide +kernel
      have e3 : putE id 1 1 [(3, 1, [])] = 0 := by decide +kernel
      simp only [List.map_cons, List.map_nil, En.pe] at HA
      rw [e1, e2, e3] at HA
      clear e1 e2 e3
      have e4 : lastT id [((1 : Int), (1 : Int), ([] : List Int)), (3, 1, [])] = 3 := by decide +kernel
      have e5 := hid e4
      clear e4
      go_wp2_with (first
        | (go_at_call 34; refine (entry_any _ _).mono ?_; rintro e w2 ⟨rfl, hk2⟩
           unfold En.val
           have HK2 := hid hk2
           have HA2 := hid (HA.out _ hk2)
           clear hk2)
        | (go_at_call 16; refine HA2.out.mono ?_; rintro e w3 ⟨rfl, hl3, hk3⟩
           have HK3 := hid (((HK.out.then HK2.out).alloc (.cells #[.int .i64 3, .int .i64 1, .slice none 0 0] 46)).trans hk3 (fun i hi hn => hn (.inl (.inl hi))))
           have HLa := hid (last_at _ _ _ _ hl3 (by simp))
           have HU := hid (fun W (hs : Same w3 W) n t => uptodate_at W _ _ _ (hl3.same hs) (by simp) n t)
           rw [e5.out] at HLa
           unfold UpPostQ at HU
           rw [e5.out] at HU
           clear hl3 hk3)
        | (go_at_call 35; refine HLa.out.mono ?_; rintro e w4 ⟨rfl, hk4⟩
           have HK4 := hid (HK3.out.then hk4)
           have HU4 := hid (HU.out _ hk4 2 3)
           have Hk4 := hid hk4
           clear hk4)
        | (go_at_call 27; (with_reducible refine HU4.out.mono ?_); rintro e w5 ⟨rfl, hk5⟩
           have HK5 := hid (HK4.out.then hk5)
           have HU5 := hid (HU.out _ (Hk4.out.then hk5) 9 2)
           clear hk5)
        | (go_at_call 27; (with_reducible refine HU5.out.mono ?_); rintro e w6 ⟨rfl, hk6⟩
           have HK6 := hid (HK5.out.then hk6)
           clear hk6))
      go_ret
      exact ⟨by rfl, HK6.out⟩
end Go.Proofs.Ytbellndcgagclaa

import Derived.Test.YtnejacmmbfeneaaActA
import Derived.Deep.Cut
import Derived.Deep.CutRange
import Derived.Deep.RegionHeld3
namespace Go.Proofs.Ytnejacmmbfeneaa
open Go.RowKit Go.PlainAid

/-! ## Two equal lists of actions -/
section
variable (w : World)
def DrewPost (w : World) (b : Bool) (e : Ending) (w' : World) : Prop := e = .returned (.bool b) ∧ ∃ n, w' = w.drewN n
set_option maxRecDepth 100000 in
theorem ints_true (A B : Option Addr) (c d : Nat) (l : List Int) (hl : l.length ≤ 100000) (h1 : Sl w (fun _ => False) 1 A l.length (icellsC l)) (h2 : Sl w (fun _ => False) 1 B l.length (icellsC l)) :
    Calls Try.prog 28 #[.slice A l.length c, .slice B l.length d] w (DrewPost w true) := by
  have H1 := hid h1
  have H2 := hid h2
  clear h1 h2
  go_enter Try.func28, Try.ntmps28
  go_wp2_with fail
  go_loopw [13] (fun i wr => ∃ k n : Nat, k ≤ l.length ∧ i = .int .i64 k ∧ wr = w.drewN n) (fun i _ => l.length - (RowKit.intOf i).toNat)
  case atStart => exact ⟨0, 0, by omega, rfl, rfl⟩
  case round =>
    obtain ⟨k, n, hk, rfl, rfl⟩ := hrel
    by_cases hlt : k < l.length
    · obtain ⟨a, ha⟩ := get_some (l := l) (k := k) hlt
      obtain ⟨b1, o1, rfl, hb1, q1⟩ := ints_at H1.out ha
      obtain ⟨b2, o2, rfl, hb2, q2⟩ := ints_at H2.out ha
      have hk0 : (0 : Int) ≤ (k : Int) := by omega
      have hk1 : (k : Int) < (l.length : Int) := by omega
      clear ha
      go_upto_region 6 with fail
      go_quiet (fail)
      go_wp2_with fail
      go_roundw
      case rel => exact ⟨k + 1, _, by omega, by go_num, rfl⟩
      case measure => simp [RowKit.intOf]; omega
    · have hk1 : (l.length : Int) ≤ (k : Int) := by omega
      go_wp2_with fail
      go_ret
      exact ⟨rfl, n, rfl⟩
theorem ac_at {w : World} {A : Option Addr} {n : Nat} {l : List AC} (h : Sl w (fun _ => False) 8 A n (accells l)) {k : Nat} {a : AC} (ha : l[k]? = some a) : ∃ b off, A = some ⟨b, off, none⟩ ∧ b < w.heap.size ∧
    w.cell? ⟨b, off + k * 8, none⟩ = some (.int .i64 a.kind) ∧ w.cell? ⟨b, off + k * 8 + 1, none⟩ = some (.int .i64 a.who) ∧ w.cell? ⟨b, off + k * 8 + 2, none⟩ = some (.int .i64 a.n) ∧ w.cell? ⟨b, off + k * 8 + 3, none⟩ = some (.int .i64 a.call) ∧
    w.cell? ⟨b, off + k * 8 + 4, none⟩ = some (.int .i64 a.other) ∧ w.cell? ⟨b, off + k * 8 + 5, none⟩ = some (.int .i64 a.node) ∧ w.cell? ⟨b, off + k * 8 + 6, none⟩ = some (.slice a.S a.src.length a.cS) ∧ w.cell? ⟨b, off + k * 8 + 7, none⟩ = some (.slice a.G a.grp.length a.cG) := by
  have hk := (List.getElem?_eq_some_iff.1 ha).1
  have hl : l.length = n := by
    have := h.len
    rw [show (accells l).length = l.length * 8 from flat_len AC.cells 8 (fun _ => rfl) l] at this
    omega
  obtain ⟨b, off, e, hb, _, hr⟩ := h.at_ (by omega)
  have g := fun j (hj : j < 8) u (hu : a.cells[j]? = some u) => hr (k * 8 + j) u (by rw [show (accells l)[k * 8 + j]? = (l[k]?).bind (fun a => a.cells[j]?) from flat_get AC.cells 8 (fun _ => rfl) l k j hj, ha]; exact hu)
  exact ⟨b, off, e, hb, g 0 (by omega) _ rfl, g 1 (by omega) _ rfl, g 2 (by omega) _ rfl, g 3 (by omega) _ rfl, g 4 (by omega) _ rfl, g 5 (by omega) _ rfl, g 6 (by omega) _ rfl, g 7 (by omega) _ rfl⟩
theorem sr_at {w : World} {A : Option Addr} {n : Nat} {l : List SR} (h : Sl w (fun _ => False) 2 A n (srcells l)) {k : Nat} {a : SR} (ha : l[k]? = some a) : ∃ b off, A = some ⟨b, off, none⟩ ∧ b < w.heap.size ∧
    w.cell? ⟨b, off + k * 2, none⟩ = some (.int .i64 a.kind) ∧ w.cell? ⟨b, off + k * 2 + 1, none⟩ = some (.slice a.A a.nodes.length a.c) := by
  have hk := (List.getElem?_eq_some_iff.1 ha).1
  have hl : l.length = n := by
    have := h.len
    rw [show (srcells l).length = l.length * 2 from flat_len SR.cells 2 (fun _ => rfl) l] at this
    omega
  obtain ⟨b, off, e, hb, _, hr⟩ := h.at_ (by omega)
  have g := fun j (hj : j < 2) u (hu : a.cells[j]? = some u) => hr (k * 2 + j) u (by rw [show (srcells l)[k * 2 + j]? = (l[k]?).bind (fun a => a.cells[j]?) from flat_get SR.cells 2 (fun _ => rfl) l k j hj, ha]; exact hu)
  exact ⟨b, off, e, hb, g 0 (by omega) _ rfl, g 1 (by omega) _ rfl⟩
set_option maxRecDepth 100000 in
set_option maxHeartbeats 8000000 in
theorem same_true (A B : Option Addr) (c d : Nat) (l m : List AC) (hn : l.length ≤ 100000) (hv : l.map AC.val = m.map AC.val) (h1 : ActM w A l) (h2 : ActM w B m) :
    Calls Try.prog 18 #[.slice A l.length c, .slice B m.length d] w fun e w' => e = .returned (.bool true) ∧ Same w w' := by
  have hlm : l.length = m.length := by have := congrArg List.length hv; simpa using this
  have H1 := hid h1
  have H2 := hid h2
  have HV := hid (show ∀ (k : Nat) (a b : AC), l[k]? = some a → m[k]? = some b → a.val = b.val from fun k a b ha hb => by
    have : (l.map AC.val)[k]? = (m.map AC.val)[k]? := by rw [hv]
    simpa [ha, hb] using this)
  rw [← hlm]
  have HLM := hid hlm
  clear h1 h2 hv hlm
  go_enter Try.func18, Try.ntmps18
  go_wp2_with fail
  go_loopw [16] (fun i wr => ∃ k : Nat, k ≤ l.length ∧ i = .int .i64 k ∧ Hid (Same w wr)) (fun i _ => l.length - (RowKit.intOf i).toNat)
  case atStart => exact ⟨0, by omega, rfl, hid (Keep.refl _ _)⟩
  case round =>
    obtain ⟨k, hk, rfl, HI⟩ := hrel
    by_cases hlt : k < l.length
    · obtain ⟨a, ha⟩ := get_some (l := l) (k := k) hlt
      obtain ⟨a2, ha2⟩ := get_some (l := m) (k := k) (by rw [← HLM.out]; exact hlt)
      obtain ⟨b1, o1, rfl, hb1, p0, p1, p2, p3, p4, p5, p6, p7⟩ := ac_at (H1.out.sl.same HI.out) ha
      obtain ⟨b2, o2, rfl, hb2, q0, q1, q2, q3, q4, q5, q6, q7⟩ := ac_at (by have := H2.out.sl.same HI.out; rwa [← HLM.out] at this) ha2
      have hvv := HV.out k a a2 ha ha2
      have hok1 := (H1.out.ok a (List.mem_of_getElem? ha)).same HI.out
      have hok2 := (H2.out.ok a2 (List.mem_of_getElem? ha2)).same HI.out
      obtain ⟨kind, who, nn, call, other, node, S, cS, src, G, cG, grp⟩ := a
      obtain ⟨kind2, who2, nn2, call2, other2, node2, S2, cS2, src2, G2, cG2, grp2⟩ := a2
      simp only [AC.val, AV.mk.injEq] at hvv
      obtain ⟨rfl, rfl, rfl, rfl, rfl, rfl, hsrc, rfl⟩ := hvv
      have HO1 := hid hok1
      have HO2 := hid hok2
      have HSRC := hid hsrc
      have hsl : src.length = src2.length := by have := congrArg List.length hsrc; simpa using this
      simp only at p0 p1 p2 p3 p4 p5 p6 p7 q0 q1 q2 q3 q4 q5 q6 q7
      rw [← hsl] at q6
      have HSL := hid hsl
      clear ha ha2 hok1 hok2 hsrc hsl
      have hk0 : (0 : Int) ≤ (k : Int) := by omega
      have hk1 : (k : Int) < (l.length : Int) := by omega
      go_upto_region 6 with fail
      go_cut [6, 7, 16] from 16 to 120 (fun u6 u7 u16 w' => ∃ g6 g7 : Nat, u6 = .pointer (some ⟨g6, 0, none⟩) ∧ u7 = .pointer (some ⟨g7, 0, none⟩) ∧ u16 = .int .i64 k ∧ Hid (Same wr w' ∧ Blk w' g6 59 #[.int .i64 kind, .int .i64 who, .int .i64 nn, .int .i64 call, .int .i64 other, .int .i64 node, .slice S src.length cS, .slice G grp.length cG] ∧ Blk w' g7 59 #[.int .i64 kind, .int .i64 who, .int .i64 nn, .int .i64 call, .int .i64 other, .int .i64 node, .slice S2 src.length cS2, .slice G2 grp.length cG2]))
      case first =>
        go_region_held3 (fun W => W.cell? ⟨b1, o1 + k * 8, none⟩ = some (.int .i64 kind) ∧ W.cell? ⟨b1, o1 + k * 8 + 1, none⟩ = some (.int .i64 who) ∧ W.cell? ⟨b1, o1 + k * 8 + 2, none⟩ = some (.int .i64 nn) ∧ W.cell? ⟨b1, o1 + k * 8 + 3, none⟩ = some (.int .i64 call) ∧ W.cell? ⟨b1, o1 + k * 8 + 4, none⟩ = some (.int .i64 other) ∧ W.cell? ⟨b1, o1 + k * 8 + 5, none⟩ = some (.int .i64 node) ∧ W.cell? ⟨b1, o1 + k * 8 + 6, none⟩ = some (.slice S src.length cS) ∧ W.cell? ⟨b1, o1 + k * 8 + 7, none⟩ = some (.slice G grp.length cG) ∧ W.cell? ⟨b2, o2 + k * 8, none⟩ = some (.int .i64 kind) ∧ W.cell? ⟨b2, o2 + k * 8 + 1, none⟩ = some (.int .i64 who) ∧ W.cell? ⟨b2, o2 + k * 8 + 2, none⟩ = some (.int .i64 nn) ∧ W.cell? ⟨b2, o2 + k * 8 + 3, none⟩ = some (.int .i64 call) ∧ W.cell? ⟨b2, o2 + k * 8 + 4, none⟩ = some (.int .i64 other) ∧ W.cell? ⟨b2, o2 + k * 8 + 5, none⟩ = some (.int .i64 node) ∧ W.cell? ⟨b2, o2 + k * 8 + 6, none⟩ = some (.slice S2 src.length cS2) ∧ W.cell? ⟨b2, o2 + k * 8 + 7, none⟩ = some (.slice G2 grp.length cG2))
          (first | exact ⟨p0, p1, p2, p3, p4, p5, p6, p7, q0, q1, q2, q3, q4, q5, q6, q7⟩ | go_keep) (fail)
        all_goals (go_wp2_with fail; go_meet; exact ⟨_, _, rfl, rfl, rfl, hid ⟨(((Keep.refl _ wr).alloc _).alloc _).drew, by first | exact ((Blk.made wr _ _).alloc _).drew | (have := Blk.made (wr.alloc (.cells #[.int .i64 kind, .int .i64 who, .int .i64 nn, .int .i64 call, .int .i64 other, .int .i64 node, .slice S2 src.length cS2, .slice G2 grp.length cG2] 59)) 59 #[.int .i64 kind, .int .i64 who, .int .i64 nn, .int .i64 call, .int .i64 other, .int .i64 node, .slice S src.length cS, .slice G grp.length cG]; rw [World.size_alloc] at this; exact this.drew), by first | exact ((Blk.made wr _ _).alloc _).drew | (have := Blk.made (wr.alloc (.cells #[.int .i64 kind, .int .i64 who, .int .i64 nn, .int .i64 call, .int .i64 other, .int .i64 node, .slice S src.length cS, .slice G grp.length cG] 59)) 59 #[.int .i64 kind, .int .i64 who, .int .i64 nn, .int .i64 call, .int .i64 other, .int .i64 node, .slice S2 src.length cS2, .slice G2 grp.length cG2]; rw [World.size_alloc] at this; exact this.drew)⟩⟩)
      case rest =>
        obtain ⟨g6, g7, rfl, rfl, rfl, HC⟩ := hcut
        clear p0 p1 p2 p3 p4 p5 p6 p7 q0 q1 q2 q3 q4 q5 q6 q7
        have HKC := hid (HI.out.then HC.out.1)
        have HG1 := hid ((HO1.out.same HC.out.1).grp)
        have HG2 := hid ((HO2.out.same HC.out.1).grp)
        have lt6 := HC.out.2.1.lt
        have lt7 := HC.out.2.2.lt
        have a0 : wc.cell? ⟨g6, 0, none⟩ = some (.int .i64 kind) := (HC.out.2.1.at_ 0).trans rfl
        have a1 : wc.cell? ⟨g6, 1, none⟩ = some (.int .i64 who) := (HC.out.2.1.at_ 1).trans rfl
        have a2 : wc.cell? ⟨g6, 2, none⟩ = some (.int .i64 nn) := (HC.out.2.1.at_ 2).trans rfl
        have a3 : wc.cell? ⟨g6, 3, none⟩ = some (.int .i64 call) := (HC.out.2.1.at_ 3).trans rfl
        have a4 : wc.cell? ⟨g6, 4, none⟩ = some (.int .i64 other) := (HC.out.2.1.at_ 4).trans rfl
        have a5 : wc.cell? ⟨g6, 5, none⟩ = some (.int .i64 node) := (HC.out.2.1.at_ 5).trans rfl
        have a6 : wc.cell? ⟨g6, 6, none⟩ = some (.slice S src.length cS) := (HC.out.2.1.at_ 6).trans rfl
        have a7 : wc.cell? ⟨g6, 7, none⟩ = some (.slice G grp.length cG) := (HC.out.2.1.at_ 7).trans rfl
        have b0 : wc.cell? ⟨g7, 0, none⟩ = some (.int .i64 kind) := (HC.out.2.2.at_ 0).trans rfl
        have b1' : wc.cell? ⟨g7, 1, none⟩ = some (.int .i64 who) := (HC.out.2.2.at_ 1).trans rfl
        have b2' : wc.cell? ⟨g7, 2, none⟩ = some (.int .i64 nn) := (HC.out.2.2.at_ 2).trans rfl
        have b3 : wc.cell? ⟨g7, 3, none⟩ = some (.int .i64 call) := (HC.out.2.2.at_ 3).trans rfl
        have b4 : wc.cell? ⟨g7, 4, none⟩ = some (.int .i64 other) := (HC.out.2.2.at_ 4).trans rfl
        have b5 : wc.cell? ⟨g7, 5, none⟩ = some (.int .i64 node) := (HC.out.2.2.at_ 5).trans rfl
        have b6 : wc.cell? ⟨g7, 6, none⟩ = some (.slice S2 src.length cS2) := (HC.out.2.2.at_ 6).trans rfl
        have b7 : wc.cell? ⟨g7, 7, none⟩ = some (.slice G2 grp.length cG2) := (HC.out.2.2.at_ 7).trans rfl
        have HII := hid (fun W (hs : Same wc W) => ints_true W G G2 cG cG2 grp HO1.out.lg (HG1.out.same hs) (HG2.out.same hs))
        go_wp2_with (go_at_call 28; (with_reducible refine (HII.out _ (Keep.refl _ _)).mono ?_); rintro e w9 ⟨rfl, n9, rfl⟩)
        go_loopw [87] (fun i wr => ∃ j : Nat, j ≤ src.length ∧ i = .int .i64 j ∧ Hid (Same wc wr)) (fun i _ => src.length - (RowKit.intOf i).toNat)
        case atStart => exact ⟨0, by omega, rfl, hid ((Keep.refl _ _).drewN _)⟩
        case round =>
          obtain ⟨j, hj, rfl, HJ⟩ := hrel
          clear a0 a1 a2 a3 a4 a5 a7 b0 b1' b2' b3 b4 b5 b7
          have a6' := (HJ.out.cell (p := ⟨g6, 6, none⟩) lt6 (fun f => f)).trans a6
          have b6' := (HJ.out.cell (p := ⟨g7, 6, none⟩) lt7 (fun f => f)).trans b6
          clear a6 b6
          by_cases hltj : j < src.length
          · obtain ⟨s, hs⟩ := get_some (l := src) (k := j) hltj
            obtain ⟨s2, hs2⟩ := get_some (l := src2) (k := j) (by rw [← HSL.out]; exact hltj)
            obtain ⟨e1, f1, hS, hb3, s0, s1⟩ := sr_at (HO1.out.src.same (HC.out.1.then HJ.out)) hs
            obtain ⟨e2, f2, hS2, hb4, t0, t1⟩ := sr_at (by have := HO2.out.src.same (HC.out.1.then HJ.out); rwa [show (AC.mk kind who nn call other node S2 cS2 src2 G2 cG2 grp).src.length = src.length from HSL.out.symm] at this) hs2
            have hn1 := HO1.out.nodes s (List.mem_of_getElem? hs)
            have hn2 := HO2.out.nodes s2 (List.mem_of_getElem? hs2)
            have hsv : s.val = s2.val := by
              have h1 : (src.map SR.val)[j]? = (src2.map SR.val)[j]? := by rw [HSRC.out]
              simpa [hs, hs2] using h1
            obtain ⟨sk, sA, sc, sn⟩ := s
            obtain ⟨sk2, sA2, sc2, sn2⟩ := s2
            simp only [SR.val, Prod.mk.injEq] at hsv
            obtain ⟨rfl, rfl⟩ := hsv
            simp only at s0 s1 t0 t1 hn1 hn2 hS hS2
            have HSS := hid hS
            have HNI := hid (fun n => (ints_true (wr.drewN n) sA sA2 sc sc2 sn hn1.2 (hn1.1.same ((HC.out.1.then HJ.out).drewN n)) (hn2.1.same ((HC.out.1.then HJ.out).drewN n)) : Calls Try.prog 28 _ (wr.drewN n) (fun e w' => e = .returned (.bool true) ∧ ∃ m, w' = (wr.drewN n).drewN m)))
            rw [hS] at a6'
            rw [hS2] at b6'
            clear hs hs2 hn1 hn2 hS hS2 HSS
            have hjl : src.length ≤ 100000 := HO1.out.ls
            have hj0 : (0 : Int) ≤ (j : Int) := by omega
            have hj1 : (j : Int) < (src.length : Int) := by omega
            have hkk : (sk != sk) = false := by simp
            go_upto_region 12 with fail
            go_quiet ((go_at_call 28; exact Calls.quiet_of (HNI.out _)))
            go_wp2_with fail
            go_roundw
            case rel => exact ⟨j + 1, by omega, by go_num, hid (HJ.out.drewN _)⟩
            case measure => simp [RowKit.intOf]; omega
          · have hj1 : (src.length : Int) ≤ (j : Int) := by omega
            go_wp2_with fail
            go_roundw
            case rel => exact ⟨k + 1, by omega, by go_num, hid (HKC.out.then HJ.out)⟩
            case measure => simp [RowKit.intOf]; omega
    · have hk1 : (l.length : Int) ≤ (k : Int) := by omega
      go_wp2_with fail
      go_ret
      exact ⟨rfl, HI.out⟩
end
end Go.Proofs.Ytnejacmmbfeneaa

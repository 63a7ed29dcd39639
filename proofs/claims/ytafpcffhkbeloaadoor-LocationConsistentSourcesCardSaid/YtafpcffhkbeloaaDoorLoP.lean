import Derived.Test.YtafpcffhkbeloaaDoorLoO
import Derived.Test.YtafpcffhkbeloaaDoorLoN
namespace Go.Proofs.YtafpcffhkbeloaaDoor
open Go.RowKit

/-! ## MatchesModel -/
theorem sumTo_at (l : List Sr) {k : Nat} {s : Sr} (h : l[k]? = some s) : s.ns.length ≤ sumTo l l.length := by
  have h1 := sumTo_succ h
  have h2 := sumTo_mono l (a := k + 1) (b := l.length) (List.getElem?_eq_some_iff.1 h).1
  omega
theorem small_bounds {l : List Sr} (h : smallB l = true) : l.length ≤ 70 ∧ ∀ s ∈ l, s.ns.length ≤ 300 := by
  simp [smallB] at h
  refine ⟨h.2, fun s hs => ?_⟩
  obtain ⟨k, hk, rfl⟩ := List.getElem_of_mem hs
  have := sumTo_at l (List.getElem?_eq_getElem hk)
  omega
def TruePost (w : World) (e : Ending) (w' : World) : Prop := e = .returned (.bool true) ∧ Same w w'
theorem setL_zero {all : List Int} (h : ofW all = zeroW) : setL all = [] := by rw [setL_eq, h]; show (elemsW zeroW).map Int.ofNat = []; rw [elems_zero]; rfl
theorem row_new (w : World) (t : TypeId) (a b : Array Value) : Blk ((w.alloc (.cells a t)).setRow w.heap.size b) w.heap.size t b ∧ Same w ((w.alloc (.cells a t)).setRow w.heap.size b) :=
  ⟨Blk.row (Blk.made w t a) b, ((Keep.refl _ w).alloc _).trans (Keep.row _ _ _) (fun i hi e => by have e2 : i = w.heap.size := e; omega)⟩
/-- the loop's state -/
def PairA2 (w wr : World) (eb base xb : Nat) (ws : List Nat) (ks : List Ks) : Prop := ∃ r p, Blk wr xb 36 p.cells.toArray ∧ EstIs wr eb r base ws (runS ws ks).1 (runS ws ks).2 ∧ SpotIs wr (fun i => i = eb ∨ some i = r ∨ i = xb) p ws (runS ws ks).1 (runS ws ks).2 ∧ Same w wr
set_option maxRecDepth 100000 in
set_option maxHeartbeats 8000000 in
theorem match_any (w : World) (hT : Tab w) (h0 : 0 < w.heap.size) (A : Option Addr) (c : Nat) (all : List Int) (ha : Sl w (fun _ => False) 1 A all.length (icells all)) (X : Option Addr) (cx : Nat) (l : List Sr) (hl : Srs w (fun _ => False) X l) (hlm : l.length ≤ maxLen) :
    Calls Tryd.prog 3 #[.slice A all.length c, .slice X l.length cx] w (TruePost w) := by
  have HWK := hid (wakes_any w hT h0)
  have HT := hid (fun W (hk2 : Same w W) => hT.same h0 hk2)
  have HT0 := hid (fun W (hk2 : Same w W) => (show 0 < W.heap.size from Nat.lt_of_lt_of_le h0 hk2.size))
  have HA := hid (fun W (hk2 : Same w W) => ha.same hk2)
  have HS := hid (fun W (hk2 : Same w W) => Srs.same (hl.wide (Av' := fun i => w.heap.size ≤ i) (fun i hi e => absurd hi (Nat.not_lt.2 e))) hk2)
  have HLM := hid hlm
  unfold TruePost
  clear hT h0 ha hl hlm
  go_enter Tryd.func3, Tryd.ntmps3
  go_wp2_with fail
  (with_reducible refine HWK.out.mono ?_)
  rintro e w1 ⟨rfl, hk1⟩
  have HK1 := hid hk1
  clear hk1 HWK
  by_cases h40 : (all.length : Int) > 40
  · go_wp2_with fail
    go_ret
    exact ⟨rfl, HK1.out⟩
  have h40' : (all.length : Int) ≤ 40 := by omega
  clear h40
  have HSM := hid (small_any w1 _ X cx l (HS.out _ HK1.out) HLM.out)
  obtain ⟨sb, hsb⟩ : ∃ b, b = smallB l := ⟨_, rfl⟩
  rw [← hsb] at HSM
  have HSB := hid hsb
  clear hsb
  cases sb with
  | false =>
    go_wp2_with ((with_reducible refine HSM.out.mono ?_); rintro e w2 ⟨rfl, rfl⟩)
    go_ret
    exact ⟨rfl, HK1.out⟩
  | true =>
  have HN := hid (small_bounds HSB.out.symm)
  have HAL := hid (show all.length ≤ 1000 from by omega)
  have hlb : (l.length : Int) ≤ 70 := by have := HN.out.1; omega
  have HOF := hid (of_any w1 _ A all c (HA.out _ HK1.out) (by have := HAL.out; omega))
  unfold SetPost at HOF
  go_upto_region 5 with ((with_reducible refine HSM.out.mono ?_); rintro e w2x ⟨rfl, rfl⟩)
  clear HSM h40'
  go_wp2_with fail
  (with_reducible refine HOF.out.mono ?_)
  rintro e w2 ⟨v2, rfl, hs2, hk2⟩
  have HNW := hid (new_any w2 v2 _ hs2)
  unfold NewPost at HNW
  have HK2 := hid (HK1.out.then hk2)
  clear hs2 hk2 HOF
  go_wp2_with fail
  (with_reducible refine HNW.out.mono ?_)
  rintro e w3 (⟨hz, rfl, hk3⟩ | ⟨hz, eb, v3, rfl, hE3, hlo3, hk3⟩)
  · have HK3 := hid (HK2.out.then hk3)
    have HZ := hid hz
    have HRN := hid (rnew_any w3 _ A c all (HA.out _ HK3.out) HAL.out)
    unfold RNewPost at HRN
    clear hk3 hz HNW
    go_wp2_with fail
    (with_reducible refine HRN.out.mono ?_)
    rintro e w4 (⟨hz4, rfl, hk4⟩ | ⟨hz4, A4, c4, rfl, hs4, hk4⟩)
    · have HK4 := hid (HK3.out.then hk4)
      clear hk4 hz4 HRN
      go_wp2_with (refine wpList_store_row rfl _ (.tmp 7) (.tmp 35) rfl w4.heap.size (spotV none 0 0 none 0 0 none 0 0 none 0).toArray rfl rfl 36 _ (Blk.made w4 _ _) (by kernel_rfl) rfl (one_toArray (spotV_one _ _ _ _ _ _ _ _ _ _ _)) ?_)
      go_ret
      exact ⟨rfl, HK4.out.then (row_new _ _ _ _).2⟩
    · exact absurd (setL_zero HZ.out) hz4
  · have HK3 := hid (HK2.out.then hk3)
    have HZ := hid hz
    have HE3 := hid hE3
    have HRN := hid (rnew_any w3 _ A c all (HA.out _ HK3.out) HAL.out)
    unfold RNewPost at HRN
    clear hk3 hz hE3 hlo3 HNW
    go_wp2_with fail
    (with_reducible refine HRN.out.mono ?_)
    rintro e w4 (⟨hz4, rfl, hk4⟩ | ⟨hz4, A4, c4, rfl, hs4, hk4⟩)
    · exact absurd ((elemsI_nil (ofW_ok all)).1 (by rw [← setL_eq]; exact hz4)) HZ.out
    · have hcell : (spotV A4 (setL all).length c4 A4 (setL all).length c4 none 0 0 none 0).toArray = Array.mk (Sp.cells ⟨A4, c4, setL all, A4, c4, setL all, none, 0, [], none, 0⟩) := rfl
      rw [hcell]
      have HKW := hid (show Same w w4 from HK3.out.then hk4)
      have HS4 := hid (spot0 (c := c4) hs4)
      have HE4 := hid (HE3.out.same hk4)
      have HHE := hid (show eb < w3.heap.size from HE3.out.top.lt)
      have HH34 := hid hk4.size
      clear hs4 hk4 hz4 HRN hcell
      generalize (⟨A4, c4, setL all, A4, c4, setL all, none, 0, [], none, 0⟩ : Sp) = p0 at *
      go_upto_region 7 with (refine wpList_store_row rfl _ (.tmp 7) (.tmp 35) rfl w4.heap.size p0.cells.toArray rfl rfl 36 _ (Blk.made w4 _ _) (by kernel_rfl) rfl (one_toArray (sp_one _)) ?_)
      have hrn := row_new w4 36 #[.slice none 0 0, .slice none 0 0, .slice none 0 0, .slice none 0 0] p0.cells.toArray
      obtain ⟨xb, hxb⟩ : ∃ x, x = w4.heap.size := ⟨_, rfl⟩
      rw [← hxb] at hrn ⊢
      generalize (((w4.alloc (.cells #[.slice none 0 0, .slice none 0 0, .slice none 0 0, .slice none 0 0] 36)).setRow xb p0.cells.toArray)) = w5 at *
      obtain ⟨hb5, hk5⟩ := hrn
      have HP5 := hid (show PairA2 w w5 eb w2.heap.size xb (ofW all) (keys (l.take 0)) from
        ⟨none, p0, hb5, est0 (HE4.out.same hk5), ((HS4.out.wide (Av' := fun i => i = eb ∨ some i = none ∨ i = xb) (fun i hi e => by
          have h1 := HHE.out
          have h2 := HH34.out
          rcases e with e | e | e
          · show i < w3.heap.size; omega
          · cases e
          · omega)).same hk5), HKW.out.then hk5⟩)
      have HXB := hid (show w.heap.size ≤ xb ∧ w.heap.size ≤ w2.heap.size from by
        have h1 := HKW.out.size
        have h3 := HK2.out.size
        omega)
      clear hb5 hk5 hxb HE4 HS4 HE3
      go_wp2_with fail
      go_loopw [53] (fun i wr => ∃ (k : Nat), k ≤ l.length ∧ i = .int .i64 k ∧ Hid (PairA2 w wr eb w2.heap.size xb (ofW all) (keys (l.take k)))) (fun i _ => l.length - (RowKit.intOf i).toNat)
      case atStart => exact ⟨0, by omega, rfl, hid HP5.out⟩
      case round =>
        obtain ⟨k, hk, rfl, HI⟩ := hrel
        obtain ⟨r, p, hx, hE, hS, hK⟩ := HI.out
        by_cases hlt : k < l.length
        · obtain ⟨s, hks⟩ := get_some hlt
          have hk1 : (k : Int) < (l.length : Int) := by omega
          obtain ⟨b1, o1, rfl, hbl, hrow, c0, c1, hso, _⟩ := Srs.at_ (HS.out wr hK) hks
          have HSN := hid (show runS (ofW all) (keys (l.take (k + 1))) = stepS (runS (ofW all) (keys (l.take k))) s.key from by
            have := runS_snoc (ofW all) (keys l) (keys_at hks)
            rwa [show keys (l.take (k + 1)) = (keys l).take (k + 1) from by simp [keys], show keys (l.take k) = (keys l).take k from by simp [keys]])
          have HN4 := hid (HN.out.2 s (List.mem_of_getElem? hks))
          have HX := hid hx
          have HE := hid hE
          have HSS := hid hS
          have HKR := hid hK
          have HSO := hid hso
          clear hrow hks hx hE hS hK hso
          go_upto_region 12 with fail
          have ha := Blk.made wr 40 #[.int .i64 s.kd, .slice s.A s.ns.length s.c]
          have hka : Same wr (wr.alloc (.cells #[.int .i64 s.kd, .slice s.A s.ns.length s.c] 40)) := (Keep.refl _ _).alloc _
          generalize (wr.alloc (.cells #[.int .i64 s.kd, .slice s.A s.ns.length s.c] 40)) = wa at *
          have HYA := hid ha
          have HKA := hid hka
          have HADD := hid (show Calls Tryd.prog 14 #[.pointer (some ⟨eb, 0, none⟩), .agg #[.int .i64 s.kd, .slice s.A s.ns.length s.c]] wa _ from add_is wa eb r w2.heap.size (ofW all) _ _ (HE.out.same hka) s (fun i => w.heap.size ≤ i) (Sl.same HSO.out hka) (by have := HN4.out; omega))
          have HAN := hid (HE.out.few.1)
          clear ha hka c0 c1
          obtain ⟨sm, hsm⟩ : ∃ b, b = (addS (runS (ofW all) (keys (l.take k))).1 (runS (ofW all) (keys (l.take k))).2.length s.key.1 s.key.2).2.2.1 := ⟨_, rfl⟩
          obtain ⟨er, her⟩ : ∃ b, b = (addS (runS (ofW all) (keys (l.take k))).1 (runS (ofW all) (keys (l.take k))).2.length s.key.1 s.key.2).2.2.2 := ⟨_, rfl⟩
          rw [← hsm, ← her] at HADD
          have HSM := hid hsm
          have HER := hid her
          clear hsm her
          go_upto_region 13 with (first
            | (refine wpList_load_row rfl _ (.tmp 10) rfl wr.heap.size rfl _ #[.int .i64 s.kd, .slice s.A s.ns.length s.c] (0, 0) _ HYA.out Tryd.underlying40 rfl (by kernel_rfl) ?_)
            | ((with_reducible refine HADD.out.mono ?_); rintro e w6 ⟨rfl, r6, hE6, hk6, hr6⟩; have HE6 := hid hE6; have HK6 := hid hk6; have HR6 := hid hr6; clear hE6 hk6 hr6))
          have HX6 := hid (Blk.keep (Blk.keep HX.out HKA.out (fun f => f)) HK6.out ((HE.out.same HKA.out).ne (Blk.keep HX.out HKA.out (fun f => f)) (by decide) (by decide)))
          have HY6 := hid (Blk.keep HYA.out HK6.out ((HE.out.same HKA.out).ne HYA.out (by decide) (by decide)))
          have HS6 := hid (spot_turn (HSS.out.same HKA.out) HK6.out HR6.out)
          have HKW6 := hid (show Same w w6 from (HKR.out.then HKA.out).trans HK6.out (fun i hi e => by
            have h1 := HE.out.lt
            have h2 := HXB.out
            rcases e with e | e
            · omega
            · have := h1.2.2 i e.symm; omega))
          have HSO6 := hid (Sl.wide (Av' := fun i => i = eb ∨ some i = r6 ∨ i = xb) (Sl.keep (Sl.same HSO.out HKA.out) HK6.out (fun i _ e => by
            have h1 := HE.out.lt
            have h2 := HXB.out
            show w.heap.size ≤ i
            rcases e with e | e
            · omega
            · have := (h1.2.2 i e.symm).1; omega)) (fun i _ e => by
            have h1 := HE6.out.lt
            have h2 := HXB.out
            show w.heap.size ≤ i
            rcases e with e | e | e
            · omega
            · have := (h1.2.2 i e.symm).1; omega
            · omega))
          have HTL := hid (show Calls Tryd.prog 15 #[.agg p.cells.toArray, .agg #[.int .i64 s.kd, .slice s.A s.ns.length s.c]] w6 _ from tell_is w6 (fun i => i = eb ∨ some i = r6 ∨ i = xb) p (ofW all) _ _ HS6.out (runS_ok (ofW_ok all) _) HAN.out s HSO6.out (by have := HN4.out; omega))
          rw [← HSM.out, ← HER.out] at HTL
          go_upto_region 14 with (first
            | (refine wpList_load_row rfl _ (.tmp 7) rfl xb rfl _ p.cells.toArray (0, 0) _ HX6.out Tryd.underlying36 rfl (by kernel_rfl) ?_)
            | (refine wpList_load_row rfl _ (.tmp 10) rfl wr.heap.size rfl _ #[.int .i64 s.kd, .slice s.A s.ns.length s.c] (0, 0) _ HY6.out Tryd.underlying40 rfl (by kernel_rfl) ?_)
            | ((with_reducible refine HTL.out.mono ?_); rintro e w7 ⟨p7, rfl, hS7, hk7⟩; have HS7 := hid hS7; have HK7 := hid hk7; have HX7 := hid (HX6.out.keep hk7 (fun f => f)); clear hS7 hk7)
            | (refine wpList_store_row rfl _ (.tmp 13) (.tmp 67) rfl w7.heap.size p7.cells.toArray rfl rfl 36 _ (Blk.made w7 _ _) (by kernel_rfl) rfl (one_toArray (sp_one _)) ?_))
          have hrn := row_new w7 36 #[.slice none 0 0, .slice none 0 0, .slice none 0 0, .slice none 0 0] p7.cells.toArray
          obtain ⟨nb, hnb⟩ : ∃ x, x = w7.heap.size := ⟨_, rfl⟩
          rw [← hnb] at hrn ⊢
          generalize (((w7.alloc (.cells #[.slice none 0 0, .slice none 0 0, .slice none 0 0, .slice none 0 0] 36)).setRow nb p7.cells.toArray)) = w8 at *
          have HB8 := hid hrn.1
          have HK8 := hid hrn.2
          have HX8 := hid (HX7.out.keep hrn.2 (fun f => f))
          clear hrn hnb
          go_upto_region 15 with (first
            | (refine wpList_load_row rfl _ (.tmp 13) rfl nb rfl _ p7.cells.toArray (0, 0) _ HB8.out Tryd.underlying36 rfl (by kernel_rfl) ?_)
            | (refine wpList_store_row rfl _ (.tmp 7) (.tmp 70) rfl xb p7.cells.toArray rfl rfl 36 _ HX8.out (by kernel_rfl) rfl (one_toArray (sp_one _)) ?_))
          have hk9 := Keep.row w8 xb p7.cells.toArray
          have hb9 := Blk.row HX8.out p7.cells.toArray
          generalize (w8.setRow xb p7.cells.toArray) = w9 at *
          have HK78 := hid (HK7.out.then HK8.out)
          have HFIN := hid (show PairA2 w w9 eb w2.heap.size xb (ofW all) (keys (l.take (k + 1))) from by
            refine ⟨r6, p7, hb9, ?_, ?_, ?_⟩
            · rw [HSN.out]; exact (HE6.out.same HK78.out).far HX8.out hk9 (by decide) (by decide) (by decide) (sp_int p)
            · rw [HSN.out]
              refine ((HS7.out.wide (Av' := fun i => i = eb ∨ some i = r6 ∨ i = xb) (fun i hi e => ⟨?_, e⟩)).same HK8.out).keep hk9 (fun i _ e => Or.inr (Or.inr e))
              have h1 := HE6.out.lt
              have h2 := HX6.out.lt
              rcases e with e | e | e
              · omega
              · exact (h1.2.2 i e.symm).2
              · omega
            · exact (HKW6.out.then HK78.out).trans hk9 (fun i hi e => by have e2 : i = xb := e; have := HXB.out; omega))
          have HSAME := hid (show Calls Tryd.prog 16 #[.pointer (some ⟨eb, 0, none⟩), .agg #[.slice p7.A p7.all.length p7.ca, .slice p7.B p7.wh.length p7.cb, .slice p7.X p7.l.length p7.cx, .slice p7.Y p7.l.length p7.cy]] w9 (fun e w' => e = .returned (.bool true) ∧ ∃ r p, Blk w' xb 36 p.cells.toArray ∧ EstIs w' eb r w2.heap.size (ofW all) (runS (ofW all) (keys (l.take (k + 1)))).1 (runS (ofW all) (keys (l.take (k + 1)))).2 ∧ SpotIs w' (fun i => i = eb ∨ some i = r ∨ i = xb) p (ofW all) (runS (ofW all) (keys (l.take (k + 1)))).1 (runS (ofW all) (keys (l.take (k + 1)))).2 ∧ Same w w') from by
            obtain ⟨r9, p9, g1, g2, g3, g4⟩ := HFIN.out
            have g2' := (HE6.out.same HK78.out).far HX8.out hk9 (by decide) (by decide) (by decide) (sp_int p)
            have g3' : SpotIs w9 (fun _ => False) p7 (ofW all) (stepS ((runS (ofW all) (keys (l.take k))).1, (runS (ofW all) (keys (l.take k))).2) s.key).1 (stepS ((runS (ofW all) (keys (l.take k))).1, (runS (ofW all) (keys (l.take k))).2) s.key).2 := by
              refine (((HS7.out.wide (Av' := fun i => i = eb ∨ some i = r6 ∨ i = xb) (fun i hi e => ⟨?_, e⟩)).same HK8.out).keep hk9 (fun i _ e => Or.inr (Or.inr e))).wide (fun _ _ f => f.elim)
              have h1 := HE6.out.lt
              have h2 := HX6.out.lt
              rcases e with e | e | e
              · omega
              · exact (h1.2.2 i e.symm).2
              · omega
            refine (same_is w9 (HT.out _ g4) (HT0.out _ g4) eb r6 w2.heap.size (ofW all) _ _ g2' (fun _ => False) p7 g3').mono ?_
            rintro e w' ⟨rfl, hk⟩
            exact ⟨rfl, r9, p9, g1.keep hk (fun f => f), g2.same hk, g3.same hk, g4.then hk⟩)
          have y0 : w9.cell? ⟨xb, 0, none⟩ = some (.slice p7.A p7.all.length p7.ca) := hb9.at_ 0
          have y1 : w9.cell? ⟨xb, 1, none⟩ = some (.slice p7.B p7.wh.length p7.cb) := hb9.at_ 1
          have y2 : w9.cell? ⟨xb, 2, none⟩ = some (.slice p7.X p7.l.length p7.cx) := hb9.at_ 2
          have y3 : w9.cell? ⟨xb, 3, none⟩ = some (.slice p7.Y p7.l.length p7.cy) := hb9.at_ 3
          clear hk9 hb9
          go_wp2_with (first
            | ((with_reducible refine HSAME.out.mono ?_); rintro e w10 ⟨rfl, hF⟩; have HF := hid hF; clear hF))
          go_roundw
          case rel => exact ⟨k + 1, by omega, by go_num, HF⟩
          case measure => simp only [RowKit.intOf]; omega
        · obtain rfl : k = l.length := by omega
          rw [List.take_length] at hE hS
          have HX := hid hx
          have HKR := hid hK
          have HSAME := hid (same_is wr (HT.out _ hK) (HT0.out _ hK) eb r w2.heap.size (ofW all) _ _ hE _ p hS)
          clear hx hE hS hK
          go_wp2_with (first
            | (refine wpList_load_row rfl _ (.tmp 7) rfl xb rfl _ p.cells.toArray (0, 0) _ HX.out Tryd.underlying36 rfl (by kernel_rfl) ?_)
            | ((with_reducible refine HSAME.out.mono ?_); rintro e w10 ⟨rfl, hF⟩; have HF := hid hF; clear hF))
          go_ret
          exact ⟨rfl, HKR.out.then HF.out⟩
end Go.Proofs.YtafpcffhkbeloaaDoor

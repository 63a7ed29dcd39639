import Derived.Test.YtafpcffhkbeloaaDoorLoP
import Derived.Test.YtafpcffhkbeloaaDoorLoX
import Derived.Test.YtafpcffhkbeloaaDoorLoIx
namespace Go.Proofs.YtafpcffhkbeloaaDoor
open Go.RowKit

/-! ## NoAliasing -/
theorem Sl.both {w : World} {Av Bv : Nat → Prop} {size n : Nat} {A : Option Addr} {xs : List Value} (h : Sl w Av size A n xs) (h2 : Sl w Bv size A n xs) : Sl w (fun i => Av i ∨ Bv i) size A n xs :=
  ⟨h.len, fun hn => by
    obtain ⟨b, off, e, g1, g2, g3⟩ := h.at_ hn
    obtain ⟨b', off', e', g1', g2', _⟩ := h2.at_ hn
    rw [e] at e'
    injection e' with e'
    injection e' with e3
    subst e3
    exact ⟨b, off, e, g1, fun h => h.elim g2 g2', g3⟩⟩
theorem IsEst.far2 {w w' : World} {eb : Nat} {r : Option Nat} {base : Nat} {va vn R : Value} {all nodes : List Nat} {l : List Ad} (h : IsEst w eb r base va vn R all nodes l) {g : Nat} {t : TypeId} {cs : Array Value} (hb : Blk w g t cs) (hk : Keep (· = g) w w')
    (h1 : t ≠ 69) (h2 : t ≠ 77) (h3 : t ≠ 72) (he : ∀ a ∈ l, SrOk w (fun i => i = g) a.s) : IsEst w' eb r base va vn R all nodes l := by
  have e1 : eb ≠ g := blk_ne h.top hb (Ne.symm h1)
  have e2 : ∀ x, R.ownBlock = some x → x ≠ g := by
    intro x hx
    obtain ⟨cur, hcur⟩ := own_row h.row hx
    exact blk_ne hcur hb (Ne.symm h2)
  exact ⟨h.top.keep hk e1, h.all_.far hb hk h3, h.nodes_.far hb hk h3, h.row.keepB hk e2, h.own, fun a ha => ⟨Sl.wide (Sl.keep (Sl.both (h.each a ha).1 (he a ha)) hk (fun i _ e => Or.inr e)) (fun i _ e => Or.inl e), (h.each a ha).2⟩, h.few, h.lo⟩
theorem one_tl (k : Ks) (b : Bool) : tl [(k, b)] false ++ tl [(k, b)] true = [k] := by cases b <;> rfl
theorem keys_app (a b : List Sr) : keys (a ++ b) = keys a ++ keys b := by simp [keys]
theorem addS_right {nodes : List Nat} {k : Int} {ns : List Int} (h : rightB k ns.length = true) : ∃ n2 b sm er, addS nodes 0 k ns = (n2, some b, sm, er) := by
  unfold addS
  rw [if_neg (by rw [h]; simp), if_neg (by omega)]
  split
  · exact ⟨_, _, _, _, rfl⟩
  split
  · exact ⟨_, _, _, _, rfl⟩
  · exact ⟨_, _, _, _, rfl⟩
set_option maxRecDepth 100000 in
set_option maxHeartbeats 8000000 in
theorem noalias_any (w : World) (hT : Tab w) (h0 : 0 < w.heap.size) (A : Option Addr) (c : Nat) (all : List Int) (ha : Sl w (fun _ => False) 1 A all.length (icells all)) (s : Sr) (hs : SrOk w (fun _ => False) s) :
    Calls Tryd.prog 4 #[.slice A all.length c, .agg s.cells.toArray] w (TruePost w) := by
  have hk : Same w (w.alloc (.cells #[.int .i64 s.kd, .slice s.A s.ns.length s.c] 40)) := (Keep.refl _ _).alloc _
  have hb := Blk.made w 40 #[.int .i64 s.kd, .slice s.A s.ns.length s.c]
  have HWK := hid (wakes_any (w.alloc (.cells #[.int .i64 s.kd, .slice s.A s.ns.length s.c] 40)) (hT.same h0 hk) (by have := hb.lt; omega))
  have HT := hid (fun W (hk2 : Same w W) => hT.same h0 hk2)
  have HT0 := hid (fun W (hk2 : Same w W) => (show 0 < W.heap.size from Nat.lt_of_lt_of_le h0 hk2.size))
  obtain ⟨sb, hsbx⟩ : ∃ x, x = w.heap.size := ⟨_, rfl⟩
  rw [← hsbx] at hb
  show Calls Tryd.prog 4 #[.slice A all.length c, .agg #[.int .i64 s.kd, .slice s.A s.ns.length s.c]] w (TruePost w)
  unfold TruePost
  go_enter Tryd.func4, Tryd.ntmps4
  go_upto_region 1 with fail
  generalize (w.alloc (.cells #[.int .i64 s.kd, .slice s.A s.ns.length s.c] 40)) = w0 at *
  have HK0 := hid hk
  have HB0 := hid (fun W (hk2 : Same w0 W) => hb.keep (S := fun _ => False) hk2 (fun f => f))
  have HA := hid (fun W (hk2 : Same w0 W) => (ha.same hk).same hk2)
  have HSO := hid (fun W (hk2 : Same w0 W) => (show SrOk W (fun i => w0.heap.size ≤ i) s from Sl.same (Sl.wide (Sl.same hs hk) (fun i _ e => by
    have h1 := hk.size
    omega)) hk2))
  rw [← hsbx]
  clear hT h0 ha hs hk hb hsbx
  go_wp2_with fail
  (with_reducible refine HWK.out.mono ?_)
  rintro e w1 ⟨rfl, hk1⟩
  have HK1 := hid hk1
  clear hk1 HWK
  have y0 : w1.cell? ⟨sb, 0, none⟩ = some (.int .i64 s.kd) := (HB0.out _ HK1.out).at_ 0
  have y1 : w1.cell? ⟨sb, 1, none⟩ = some (.slice s.A s.ns.length s.c) := (HB0.out _ HK1.out).at_ 1
  by_cases h40 : (all.length : Int) > 40
  · go_wp2_with fail
    go_ret
    exact ⟨rfl, HK0.out.then HK1.out⟩
  by_cases hx40 : (s.ns.length : Int) > 40
  · go_wp2_with fail
    go_ret
    exact ⟨rfl, HK0.out.then HK1.out⟩
  by_cases hx0 : ((s.ns.length : Int) == 0) = true
  · go_wp2_with fail
    go_ret
    exact ⟨rfl, HK0.out.then HK1.out⟩
  have hx0' : ((s.ns.length : Int) == 0) = false := by simpa using hx0
  have h40' : (all.length : Int) ≤ 40 := by omega
  have hx40' : (s.ns.length : Int) ≤ 40 := by omega
  clear h40 hx40 hx0
  have HRI := hid (show Calls Tryd.prog 17 #[.agg #[.int .i64 s.kd, .slice s.A s.ns.length s.c]] w1 _ from right_any w1 s)
  obtain ⟨gd, hgd⟩ : ∃ b, b = rightB s.kd s.ns.length := ⟨_, rfl⟩
  rw [← hgd] at HRI
  have HGD := hid hgd
  clear hgd
  cases gd with
  | false =>
    go_wp2_with ((with_reducible refine HRI.out.mono ?_); rintro e w2 ⟨rfl, hk2⟩; have HK2 := hid hk2; clear hk2)
    go_ret
    exact ⟨rfl, HK0.out.then (HK1.out.then HK2.out)⟩
  | true =>
  go_upto_region 5 with ((with_reducible refine HRI.out.mono ?_); rintro e w2 ⟨rfl, hk2⟩; have HK2 := hid (HK1.out.then hk2); clear hk2)
  have HAL := hid (show all.length ≤ 1000 ∧ s.ns.length ≤ 40 ∧ 0 < s.ns.length from ⟨by omega, by omega, by
    rcases Nat.eq_zero_or_pos s.ns.length with h | h
    · rw [h] at hx0'; simp at hx0'
    · exact h⟩)
  clear y0 y1 hx0' h40' hx40' HRI
  have HTD := hid (show Calls Tryd.prog 18 #[.slice A all.length c, .slice none 0 0] w2 (RunPost w2 (ofW all) []) from run_any w2 A c all (HA.out _ HK2.out) HAL.out.1 none 0 [] (Srs.nil _ _) (fun s hs => by cases hs) (by simp))
  unfold RunPost at HTD
  go_wp2_with fail
  (with_reducible refine HTD.out.mono ?_)
  rintro e w4 (⟨hz, rfl, hk4⟩ | ⟨hz, eb, r, base, p, rfl, hE4, hbase, hS4, hk4⟩)
  · go_wp2_with (refine wpList_store_row rfl _ (.tmp 6) (.tmp 37) rfl w4.heap.size #[.slice none 0 0, .slice none 0 0, .slice none 0 0, .slice none 0 0] rfl rfl 36 _ (Blk.made w4 _ _) (by kernel_rfl) rfl (by simp [Value.oneCell']) ?_)
    go_ret
    exact ⟨rfl, HK0.out.then (HK2.out.then (hk4.then (row_new w4 36 #[.slice none 0 0, .slice none 0 0, .slice none 0 0, .slice none 0 0] #[.slice none 0 0, .slice none 0 0, .slice none 0 0, .slice none 0 0]).2))⟩
  have HK4 := hid (HK2.out.then hk4)
  have HE4 := hid (show EstIs w4 eb r base (ofW all) (ofW all) [] from hE4)
  have HS4 := hid (show SpotIs w4 _ p (ofW all) (ofW all) [] from hS4)
  have HBASE := hid (show w0.heap.size ≤ base from by have := HK2.out.size; omega)
  clear hz hE4 hS4 hk4 HTD hbase
  go_upto_region 6 with (refine wpList_store_row rfl _ (.tmp 6) (.tmp 37) rfl w4.heap.size p.cells.toArray rfl rfl 36 _ (Blk.made w4 _ _) (by kernel_rfl) rfl (one_toArray (sp_one _)) ?_)
  have hrn := row_new w4 36 #[.slice none 0 0, .slice none 0 0, .slice none 0 0, .slice none 0 0] p.cells.toArray
  obtain ⟨xb, hxb⟩ : ∃ x, x = w4.heap.size := ⟨_, rfl⟩
  rw [← hxb] at hrn ⊢
  generalize (((w4.alloc (.cells #[.slice none 0 0, .slice none 0 0, .slice none 0 0, .slice none 0 0] 36)).setRow xb p.cells.toArray)) = w5 at *
  have HX5 := hid (fun W (hk : Same w5 W) => hrn.1.keep (S := fun _ => False) hk (fun f => f))
  have HK5 := hid (HK4.out.then hrn.2)
  have HE5 := hid (HE4.out.same hrn.2)
  have HS5 := hid ((HS4.out.wide (Av' := fun i => i = eb ∨ some i = r ∨ i = xb) (fun i hi e => by
    rcases e with e | e | e
    · exact .inl e
    · exact .inr e
    · omega)).same hrn.2)
  have HXW := hid (show w0.heap.size ≤ xb from by have := HK4.out.size; omega)
  clear hrn HE4 HS4 hxb
  have z1 : w5.cell? ⟨sb, 1, none⟩ = some (.slice s.A s.ns.length s.c) := (HB0.out _ HK5.out).at_ 1
  have hlt5 : sb < w5.heap.size := (HB0.out _ HK5.out).lt
  have HSRC := hid (Sl.src (HSO.out _ HK5.out) ((Keep.refl _ w5).alloc (.cells #[] 3)))
  have hn40 := HAL.out.2.1
  go_upto_region 9 with (at_builtin; refine EInt.law2 (.tmp 41) (.tmp 43) (.slice (some ⟨w5.heap.size, 0, none⟩) 0 0) s.A s.ns.length s.c rfl rfl rfl rfl w5.heap.size 0 [] (icells s.ns) s.ns.length (icells s.ns) (Nat.zero_add _) (List.nil_append _) (Own.lit0 w5 _ 1) (by simp [icells_len]) HSRC.out (icells_one s.ns) (by omega) (by unfold maxLen; omega) (by simp) ?_; intro A1 c1 w8 hown hg _; have HOW := hid hown; have HK8a := hid (show Same w5 w8 from ((Keep.refl _ w5).alloc _).grown hg (fun g e hl => by simp [Value.ownBlock] at e; omega)); clear hown hg)
  have HK8 := hid (HK5.out.then HK8a.out)
  have q0 : w8.cell? ⟨sb, 0, none⟩ = some (.int .i64 s.kd) := (HB0.out _ HK8.out).at_ 0
  obtain ⟨g1, cur, rfl, hg1, hbg, hg2, hg3, hg4, hg5⟩ := HOW.out.open_ HAL.out.2.2
  have HG1 := hid hg1
  have HBG := hid hbg
  have HCUR := hid (show cur.toList.take (s.ns.length * 1) = icells s.ns from hg5)
  clear hg1 hbg hg2 hg3 hg4 hg5 z1
  have hes := HE5.out.same HK8a.out
  obtain ⟨va, vn, R, le, hIE, hvws⟩ := hes
  have hle : le = [] := by simpa [vws] using hvws
  subst hle
  obtain ⟨n2, b, sm, er, hR⟩ := addS_right (nodes := ofW all) (k := s.kd) (ns := s.ns) HGD.out.symm
  have HRR := hid hR
  have HIE := hid hIE
  have HADD := hid (show Calls Tryd.prog 14 #[.pointer (some ⟨eb, 0, none⟩), .agg #[.int .i64 s.kd, .slice (some ⟨g1, 0, none⟩) s.ns.length c1]] w8 (fun e w' => e = .returned (.tuple #[.bool sm, .int .i64 er]) ∧ ∃ r' va' vn' R' l', IsEst w' eb r' base va' vn' R' (ofW all) n2 l' ∧ vws l' = [(s.key, b)] ∧ Keep (fun i => i = eb ∨ some i = r) w8 w' ∧ (∀ g, r' = some g → r = some g ∨ w8.heap.size ≤ g) ∧ (∀ a ∈ l', SrOk w' (· < w8.heap.size) a.s)) from by
    have := addx_est w8 eb r base va vn R (ofW all) (ofW all) [] hIE ⟨s.kd, some ⟨g1, 0, none⟩, c1, s.ns⟩ (fun _ => False) (HOW.out.sl (fun g hg f => f)) (by show s.ns.length ≤ 1000000; omega)
    refine this.mono ?_
    rintro e w' ⟨r', va', vn', R', l', rfl, t1, t2, t3, t4, t5⟩
    have e1 : addS (ofW all) ([] : List Ad).length (Sr.key ⟨s.kd, some ⟨g1, 0, none⟩, c1, s.ns⟩).1 (Sr.key ⟨s.kd, some ⟨g1, 0, none⟩, c1, s.ns⟩).2 = (n2, some b, sm, er) := hR
    rw [e1] at t1 t2
    rw [e1]
    exact ⟨rfl, r', va', vn', R', l', t1, t2, t3, t4, fun a ha => (t5 a ha).elim (fun h => by cases h) id⟩)
  clear hR hIE hvws
  go_upto_region 10 with ((with_reducible refine HADD.out.mono ?_); rintro e w9 ⟨rfl, r9, va9, vn9, R9, l9, hE9, hv9, hk9, hr9, hf9⟩; have HE9 := hid hE9; have HV9 := hid hv9; have HK9 := hid hk9; have HR9 := hid hr9; have HF9 := hid hf9; clear hE9 hv9 hk9 hr9 hf9)
  clear q0
  have HNE := hid (fun g t cs (hb : Blk w8 g t cs) (h1 : t ≠ 69) (h2 : t ≠ 77) => (HE5.out.same HK8a.out).ne hb h1 h2)
  have HX9 := hid (Blk.keep (HX5.out _ HK8a.out) HK9.out (HNE.out _ _ _ (HX5.out _ HK8a.out) (by decide) (by decide)))
  have HB9 := hid (Blk.keep (HB0.out _ HK8.out) HK9.out (HNE.out _ _ _ (HB0.out _ HK8.out) (by decide) (by decide)))
  have HG9 := hid (Blk.keep HBG.out HK9.out (HNE.out _ _ _ HBG.out (by decide) (by decide)))
  have HKW9 := hid ((HE5.out.same HK8a.out).low HK9.out w0 HK8.out HBASE.out)
  have HS9 := hid (spot_turn (E := fun i => i = xb ∨ i = g1) ((HS5.out.wide (Av' := fun i => i = eb ∨ some i = r ∨ (i = xb ∨ i = g1)) (fun i hi e => by
    have h1 := HG1.out
    rcases e with e | e | e | e
    · exact .inl e
    · exact .inr (.inl e)
    · exact .inr (.inr e)
    · omega)).same HK8a.out) HK9.out HR9.out)
  have hlt9 := HE9.out.top.lt
  have HLT := hid (show w0.heap.size ≤ eb ∧ (∀ g, r9 = some g → w0.heap.size ≤ g) ∧ w0.heap.size ≤ xb ∧ w0.heap.size ≤ g1 from by
    have h1 := (show EstIs w9 eb r9 base (ofW all) n2 _ from ⟨_, _, _, _, HE9.out, rfl⟩).lt
    have h2 := HBASE.out
    have h3 := HK5.out.size
    have h4 := HG1.out
    have h5 := HXW.out
    exact ⟨by omega, fun g e => by have := (h1.2.2 g e).1; omega, by omega, by omega⟩)
  have HTL := hid (show Calls Tryd.prog 15 #[.agg p.cells.toArray, .agg #[.int .i64 s.kd, .slice s.A s.ns.length s.c]] w9 _ from tell_is w9 _ p (ofW all) _ _ HS9.out (ofW_ok all) (by simp) s (Sl.wide (HSO.out _ HKW9.out) (fun i _ e => by
    have h1 := HLT.out
    show w0.heap.size ≤ i
    rcases e with e | e | e | e
    · omega
    · exact h1.2.1 i e.symm
    · omega
    · omega)) (by omega))
  have hst : stepS (ofW all, []) s.key = (n2, [(s.key, b)]) := by
    have e1 : addS (ofW all) ([] : List (Ks × Bool)).length s.key.1 s.key.2 = (n2, some b, sm, er) := HRR.out
    simp only [stepS, e1]; rfl
  rw [hst] at HTL
  clear hst
  go_upto_region 11 with (first
    | (refine wpList_load_row rfl _ (.tmp 6) rfl xb rfl _ p.cells.toArray (0, 0) _ HX9.out Tryd.underlying36 rfl (by kernel_rfl) ?_)
    | (refine wpList_load_row rfl _ (.tmp 3) rfl sb rfl _ #[.int .i64 s.kd, .slice s.A s.ns.length s.c] (0, 0) _ HB9.out Tryd.underlying40 rfl (by kernel_rfl) ?_)
    | ((with_reducible refine HTL.out.mono ?_); rintro e wt ⟨p7, rfl, hS7, hk7⟩; have HS7 := hid hS7; have HK7 := hid hk7; have HX7 := hid (HX9.out.keep hk7 (fun f => f)); clear hS7 hk7)
    | (refine wpList_store_row rfl _ (.tmp 6) (.tmp 55) rfl xb p7.cells.toArray rfl rfl 36 _ HX7.out (by kernel_rfl) rfl (one_toArray (sp_one _)) ?_))
  have hk10 := Keep.row wt xb p7.cells.toArray
  have hb10 := Blk.row HX7.out p7.cells.toArray
  generalize (wt.setRow xb p7.cells.toArray) = w10 at *
  have HGT := hid (HG9.out.keep HK7.out (fun f => f))
  have hgx : g1 ≠ xb := blk_ne HGT.out HX7.out (by decide)
  have HG10 := hid (HGT.out.keep hk10 hgx)
  have HX10 := hid hb10
  have HKW10 := hid (show Same w0 w10 from (HKW9.out.then HK7.out).trans hk10 (fun i hi e => by have e2 : i = xb := e; have := HLT.out.2.2.1; omega))
  have HEX := hid (show IsEst w10 eb r9 base va9 vn9 R9 (ofW all) n2 l9 from (HE9.out.same HK7.out).far HX7.out hk10 (by decide) (by decide) (by decide) (sp_int p))
  have HEF := hid (show ∀ a ∈ l9, SrOk w10 (fun i => i = g1) a.s from fun a ha => by
    have h1 : SrOk w9 (· < w8.heap.size) a.s := HF9.out a ha
    have h2 := HBG.out.lt
    have h3 := (HX5.out _ HK8a.out).lt
    exact Sl.wide (Sl.keep (Sl.same h1 HK7.out) hk10 (fun i _ e => by have e2 : i = xb := e; show i < w8.heap.size; omega)) (fun i _ e => by have e2 : i = g1 := e; show i < w8.heap.size; omega))
  have HSX := hid (show SpotIs w10 (fun i => i = g1) p7 (ofW all) n2 [(s.key, b)] from ((HS7.out.wide (Av' := fun i => i = xb ∨ i = g1) (fun i hi e => ⟨by
    have h2 := HBG.out.lt
    have h3 := (HX5.out _ HK8a.out).lt
    have h4 := HK9.out.size
    rcases e with e | e <;> omega, Or.inr (Or.inr e)⟩)).keep hk10 (fun i _ e => Or.inl e)).wide (fun i _ e => Or.inr e))
  clear hk10 hb10
  obtain ⟨a0, ns0, hns⟩ : ∃ a0 ns0, s.ns = a0 :: ns0 := by
    have h1 := HAL.out.2.2
    cases h : s.ns with
    | nil => rw [h] at h1; simp at h1
    | cons a t => exact ⟨a, t, rfl⟩
  have f0 : w10.cell? ⟨g1, 0, none⟩ = some (.int .i64 a0) := by
    rw [HG10.out.at_ 0]
    have h1 := HCUR.out
    rw [hns] at h1
    have h2 : (cur.toList.take ((a0 :: ns0).length * 1))[0]? = some (.int .i64 a0) := by rw [h1]; rfl
    rw [List.getElem?_take] at h2
    simpa using h2
  have f1 := HG10.out.free 0
  have HLN := hid (show s.ns.length = ns0.length + 1 from by rw [hns]; rfl)
  have hnp : (0 : Int) < (s.ns.length : Int) := by have := HAL.out.2.2; omega
  clear hns
  go_upto_region 12 with fail
  obtain ⟨uu, huu⟩ : ∃ u, u = wrap64 (a0 + 1) := ⟨_, rfl⟩
  try rw [← huu]
  have hk12 : Keep (· = g1) w10 (w10.setCell ⟨g1, 0, none⟩ (.int .i64 uu)) := (Keep.refl _ w10).put 0 _
  generalize (w10.setCell ⟨g1, 0, none⟩ (.int .i64 uu)) = w12 at *
  have HE12 := hid (show EstIs w12 eb r9 base (ofW all) n2 [(s.key, b)] from ⟨va9, vn9, R9, l9, HEX.out.far2 HG10.out hk12 (by decide) (by decide) (by decide) HEF.out, HV9.out⟩)
  have HS12 := hid (show SpotIs w12 (fun i => i = g1) p7 (ofW all) n2 [(s.key, b)] from HSX.out.keep hk12 (fun i _ e => e))
  have HX12 := hid (HX10.out.keep hk12 (Ne.symm hgx))
  have HKW12 := hid (show Same w0 w12 from HKW10.out.trans hk12 (fun i hi e => by have e2 : i = g1 := e; have := HLT.out.2.2.2; omega))
  clear hk12 huu f0 f1 hlt9
  have HRJ := hid (show Calls Tryd.prog 19 #[.pointer (some ⟨eb, 0, none⟩)] w12 (ListPostX w12 (tl [(s.key, b)] false)) from by
    obtain ⟨va', vn', R', l', t1, t2⟩ := HE12.out
    rw [← t2, ← tl_told]; exact rejectedx_any w12 eb r9 base va' vn' R' _ _ l' t1)
  have HAC := hid (fun W (hk : Same w12 W) => (show Calls Tryd.prog 20 #[.pointer (some ⟨eb, 0, none⟩)] W (ListPostX W (tl [(s.key, b)] true)) from by
    obtain ⟨va', vn', R', l', t1, t2⟩ := HE12.out.same hk
    rw [← t2, ← tl_told]; exact acceptedx_any W eb r9 base va' vn' R' _ _ l' t1))
  unfold ListPostX at HRJ HAC
  go_wp2_with fail
  (with_reducible refine HRJ.out.mono ?_)
  rintro e w13 ⟨B1, d1, F1, hf1, rfl, ho1, hc1, hk13⟩
  have HO1 := hid ho1
  have HC1 := hid hc1
  have HF1 := hid hf1
  have HK13 := hid hk13
  clear ho1 hc1 hf1 hk13 HRJ
  go_wp2_with fail
  (with_reducible refine (HAC.out _ HK13.out).mono ?_)
  rintro e w14 ⟨B2, d2, F2, hf2, rfl, ho2, hc2, hk14⟩
  have HO2 := hid ho2
  have HC2 := hid hc2
  have HF2 := hid hf2
  have HK14 := hid hk14
  clear ho2 hc2 hf2 hk14 HAC
  have HLEN := hid (show keys (F1 ++ F2) = [s.key] from by rw [keys_app, HF1.out, HF2.out, one_tl])
  have hlen : F1.length + F2.length = 1 := by
    have := congrArg List.length HLEN.out
    rw [keys_len] at this
    simpa using this
  have HO14 := hid (HO1.out.keep HK14.out (fun _ _ _ f => f))
  have h1213 := HK13.out.size
  have h1314 := HK14.out.size
  go_upto_region 13 with (at_builtin; refine ESrc.law2 (.tmp 64) (.tmp 66) (.slice B1 F1.length d1) B2 F2.length d2 rfl rfl rfl rfl w12.heap.size F1.length (srcells F1) (srcells F2) 1 (srcells F1 ++ srcells F2) hlen rfl HO14.out (srcells_len F2) (Sl.src (HO2.out.sl (Av := fun _ => False) (fun _ _ f => f)) (Keep.refl _ w14)) (srcs_one F2) (by omega) (by unfold maxLen; omega) (by omega) ?_; intro A5 c5 w15 hown hg _; have HO15 := hid hown; have HGR := hid hg; clear hown hg)
  obtain ⟨z, hz⟩ : ∃ z, F1 ++ F2 = [z] := by
    have : (F1 ++ F2).length = 1 := by simpa using hlen
    exact List.length_eq_one_iff.1 this
  have HK15 := hid (show Same w12 w15 from (HK13.out.then HK14.out).grown HGR.out (fun g e hl => by have := HO14.out.block g e; omega))
  have HZK := hid (show z.ns = s.ns from by
    have := HLEN.out
    rw [hz] at this
    have h2 : z.key = s.key := by simpa [keys] using this
    exact congrArg Prod.snd h2)
  have hkp : Keep (fun i => some i = B1.map (·.block)) w14 w15 := (Keep.refl _ w14).grown HGR.out (fun g e _ => by rw [own_blk HO14.out] at e; exact e.symm)
  have HZW := hid (show SrW w15 (· < w12.heap.size) z from by
    have hzm : z ∈ F1 ++ F2 := by rw [hz]; simp
    rcases List.mem_append.1 hzm with h | h
    · have h1 := SlW.same (HC1.out z h).1 HK14.out
      exact SlW.wide (SlW.keep h1 hkp (fun i _ e => .inr e)) (fun i _ e => .inl e)
    · have h1 := (HC2.out z h).1
      exact SlW.wide (SlW.keep h1 hkp (fun i _ e => .inl (HO1.out.lt i (by rw [own_blk HO1.out]; exact e.symm)))) (fun i _ e => .inl (by have e2 : i < w12.heap.size := e; omega)))
  have HROW := hid (show Own w15 w12.heap.size 40 2 (.slice A5 1 c5) 1 z.cells from by
    have := HO15.out
    rw [show srcells F1 ++ srcells F2 = srcells (F1 ++ F2) from by simp [srcells], hz] at this
    simpa [srcells] using this)
  clear HO15 HGR HO14 HO1 HO2 HC1 HC2 hkp
  obtain ⟨gz, curz, rfl, _, hbz, _, _, _, hcz⟩ := HROW.out.open_ (by decide)
  have HBZ := hid hbz
  have HCZ := hid (show curz.toList.take 2 = z.cells from hcz)
  clear hbz hcz
  go_wp2_with fail
  go_loopw [69] (fun i wr => ∃ (k : Nat), k ≤ 1 ∧ i = .int .i64 k ∧ Hid (Same w12 wr ∧ (k = 0 → wr = w15))) (fun i _ => 1 - (RowKit.intOf i).toNat)
  case atStart => exact ⟨0, by omega, rfl, hid ⟨HK15.out, fun _ => rfl⟩⟩
  case round =>
    obtain ⟨k, hk, rfl, HI⟩ := hrel
    by_cases hlt : k < 1
    · obtain rfl : 0 = k := by omega
      obtain rfl : wr = w15 := HI.out.2 rfl
      have x0 : wr.cell? ⟨gz, 0, none⟩ = some (.int .i64 z.kd) := by
        rw [HBZ.out.at_ 0]
        have h2 : (curz.toList.take 2)[0]? = some (.int .i64 z.kd) := by rw [HCZ.out]; rfl
        rw [List.getElem?_take] at h2
        simpa using h2
      have x1 : wr.cell? ⟨gz, 1, none⟩ = some (.slice z.A z.ns.length z.c) := by
        rw [HBZ.out.at_ 1]
        have h2 : (curz.toList.take 2)[1]? = some (.slice z.A z.ns.length z.c) := by rw [HCZ.out]; rfl
        rw [List.getElem?_take] at h2
        simpa using h2
      clear hk hlt
      go_upto_region 15 with fail
      have ha := Blk.made wr 40 #[.int .i64 z.kd, .slice z.A z.ns.length z.c]
      have hka : Same wr (wr.alloc (.cells #[.int .i64 z.kd, .slice z.A z.ns.length z.c] 40)) := (Keep.refl _ _).alloc _
      generalize (wr.alloc (.cells #[.int .i64 z.kd, .slice z.A z.ns.length z.c] 40)) = wa at *
      have v1 : wa.cell? ⟨wr.heap.size, 1, none⟩ = some (.slice z.A z.ns.length z.c) := ha.at_ 1
      have hzw := SlW.same HZW.out hka
      have hzl : 0 < z.ns.length := by have := HAL.out.2.2; rw [HZK.out]; exact this
      obtain ⟨bz, oz, ez, hbz1, hbz2, hbz3⟩ := hzw.1.at_ hzl
      obtain ⟨bz', oz', ez', hfz⟩ := hzw.2 hzl
      rw [ez] at ez'
      injection ez' with ez'
      injection ez' with ez3 ez4
      subst ez3 ez4
      obtain ⟨a1, zt, hzt⟩ : ∃ a1 zt, z.ns = a1 :: zt := by
        cases h : z.ns with
        | nil => rw [h] at hzl; simp at hzl
        | cons a t => exact ⟨a, t, rfl⟩
      have v2 : wa.cell? ⟨bz, oz, none⟩ = some (.int .i64 a1) := hbz3 0 _ (by rw [hzt]; rfl)
      have v3 : wa.frozen? ⟨bz, oz, none⟩ = false := hfz
      have v4 : ((z.ns.length : Int) == 0) = false := by rw [beq_eq_false_iff_ne]; omega
      have v5 : (0 : Int) < (z.ns.length : Int) := by omega
      have HKWA := hid (HK15.out.then hka)
      have HBZ2 := hid (show w12.heap.size ≤ bz from Nat.le_of_not_lt hbz2)
      rw [ez] at v1
      clear hzw hzl hbz1 hbz2 hbz3 hfz ez hzt ha hka x0 x1
      go_wp2_with fail
      go_roundw
      case rel =>
        refine ⟨1, by omega, by go_num, hid ⟨?_, fun h => by cases h⟩⟩
        exact HKWA.out.trans (Keep.setCell (S := fun i => i = bz) (Keep.refl _ wa) (fun _ => rfl) _) (fun i hi e => by have e2 : i = bz := e; have := HBZ2.out; omega)
      case measure => simp only [RowKit.intOf]; omega
    · obtain rfl : 1 = k := by omega
      clear hk hlt
      have hK := HI.out.1
      have HKE := hid (HKW12.out.then hK)
      have hX := HX12.out.keep hK (fun f => f)
      have HX := hid hX
      have HSAME := hid (same_is wr (HT.out _ (HK0.out.then HKE.out)) (HT0.out _ (HK0.out.then HKE.out)) eb r9 base (ofW all) _ _ (HE12.out.same hK) _ p7 (HS12.out.same hK))
      clear hK hX
      go_wp2_with (first
        | (refine wpList_load_row rfl _ (.tmp 6) rfl xb rfl _ p7.cells.toArray (0, 0) _ HX.out Tryd.underlying36 rfl (by kernel_rfl) ?_)
        | ((with_reducible refine HSAME.out.mono ?_); rintro e w20 ⟨rfl, hF⟩; have HF := hid hF; clear hF))
      go_ret
      exact ⟨rfl, HK0.out.then (HKE.out.then HF.out)⟩
end Go.Proofs.YtafpcffhkbeloaaDoor

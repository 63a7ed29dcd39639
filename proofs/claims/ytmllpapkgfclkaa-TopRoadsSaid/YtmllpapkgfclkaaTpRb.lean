import Derived.Test.YtmllpapkgfclkaaTpRa
import Derived.Sort.CutIn
import Derived.Sort.QuietIn
import Derived.BigRegionIn
namespace Go.Proofs.Ytmllpapkgfclkaa
open Go.RowKit Go.Shelf

attribute [local go_sem] Oper.semAt_some

def SearchB (w : World) (N s0 : Nat) (G : WG) (e : Ending) (w' : World) : Prop := ∃ R D, e = .returned (.slice (some ⟨R, 0, none⟩) N N) ∧ Blk w' R 2 (distL N D).toArray ∧ IsDist G s0 D ∧ Same w w' ∧ w.heap.size ≤ R
theorem infoIB : (Try.prog.info? 2).map (fun i => (i.zero, i.size, i.bytes)) = some (some (.int .i64 0), 1, 8) := by kernel_rfl
set_option maxRecDepth 100000 in
set_option maxHeartbeats 4000000 in
theorem searchB_any (w : World) (g N : Nat) (l : List E3) (E : Option Addr) (cE po pi : Nat) (hG : IsG w g N l E cE po pi) (hN : N ≤ 8) (hl : l.length ≤ 16384) (hok : ∀ e ∈ l, (0 ≤ e.a ∧ e.a < N) ∧ (0 ≤ e.b ∧ e.b < N))
    (wa : Option Addr) (wc : Nat) (ws : List Int) (hws : Sl w (fun _ => False) 1 wa l.length (icellsC ws)) (Wm : Int) (hOk : (wgB N l ws).Ok Wm) (hWm : Wm ≤ 17179869184)
    (ea : Option Addr) (ec s0 : Nat) (hs0 : s0 < N) (hea : Sl w (fun _ => False) 1 ea 1 (icellsC [(s0 : Int)])) :
    Calls Try.prog 21 #[.pointer (some ⟨g, 0, none⟩), .slice wa l.length wc, .slice ea 1 ec, .bool false] w (SearchB w N s0 (wgB N l ws)) := by
  refine (callsIn_wide (n := 6)).1 ?_
  obtain ⟨i0, hi, hz0, hz1, hz2⟩ := info_parts infoIB
  have hmk := fun W => EI64.make .i64 .i64 N N (by omega) (by omega) (by omega) (by omega) W
  refine callsIn_of_wp_marks Try.func21 rfl trivial ?_ rfl
  simp only [Try.ntmps21, List.size_toArray, List.length_cons, List.length_nil, Nat.reduceAdd, Nat.reduceSub, Array.replicate_succ, Array.replicate_zero, List.push_toArray, List.append_toArray, List.nil_append, List.cons_append]
  have HND := hid (fun W (hk : Same w W) => nodes_any W g N l E cE po pi (hG.same hk) (by omega))
  have HG := hid hG
  have HOK := hid hok
  have HW := hid hws
  have HEA := hid hea
  have HGO := hid hOk
  have HK3 := hid (show Same w (((w.alloc (.cells #[.pointer (some ⟨g, 0, none⟩)] 26)).alloc (.cells #[.slice wa l.length wc] 35)).alloc (.cells #[.bool false] 4)) from (((Keep.refl _ w).alloc _).alloc _).alloc _)
  clear hG hok hws hea hOk
  gi_wp2_with (first
    | (refine ⟨trivial, ?_⟩; gi_at_call 30; refine (callsIn_wide.2 (HND.out _ HK3.out)).mono ?_; rintro e w2 ⟨rfl, rfl⟩))
  have hS := S0.start w g N wa l.length wc false
  generalize ((((w.alloc (.cells #[.pointer (some ⟨g, 0, none⟩)] 26)).alloc (.cells #[.slice wa l.length wc] 35)).alloc (.cells #[.bool false] 4)).alloc (.cells (madeCells #[.int .i64 0] N) 2)).alloc (.cells #[.slice (some ⟨w.heap.size + 1 + 1 + 1, 0, none⟩) N N] 35) = W0 at *
  simp only [Nat.add_assoc, Nat.reduceAdd] at *
  have HPO := hid (fun (h : Nat) (hh : h < N) => HG.out.ins.row hh)
  generalize hsz : w.heap.size = s at *
  have HS0 := hid hS
  clear hS HK3 hmk
  gi_loopw [26] (fun i wr => ∃ k : Nat, k ≤ N ∧ i = .int .i64 k ∧ Hid (S0 w wr g s N wa l.length wc false (DK k))) (fun i _ => N - (RowKit.intOf i).toNat)
  case atStart => exact ⟨0, Nat.zero_le _, rfl, HS0⟩
  case round =>
    obtain ⟨k, hk, rfl, HS⟩ := hrel
    clear HS0
    by_cases hkn : k < N
    · have c9 : wr.cell? ⟨s + 4, 0, none⟩ = some (.slice (some ⟨s + 3, 0, none⟩) N N) := HS.out.b9.at_ 0
      have cr : wr.cell? ⟨s + 3, k, none⟩ = some (.int .i64 (DK k k)) := (HS.out.row.at_ k).trans (by rw [List.getElem?_toArray]; exact distL_at _ hkn)
      have fr := HS.out.row.free k
      have hk0 : (0 : Int) ≤ (k : Int) := Int.natCast_nonneg _
      have hk1 : (k : Int) < (N : Int) := by omega
      gi_wp2
      go_roundw
      case rel =>
        refine ⟨k + 1, by omega, by go_num, hid ?_⟩
        rw [← DK_step]
        exact HS.out.set hkn INF
      case measure => simp [RowKit.intOf]; omega
    · have hke : N = k := by omega
      subst hke
      have HQ0 := hid (HS.out.queue (D' := fun _ => INF) (fun v hv => by simp [DK, hv]))
      have hsz5 := HS.out.sz
      gi_wp2
      generalize (wr.alloc (.cells #[.slice none 0 0] 74)) = W1 at *
      clear hsz5 HS
      gi_loopw [35] (fun i wr => ∃ k : Nat, k ≤ 1 ∧ i = .int .i64 k ∧ Hid (∃ A c, SR w wr g s N wa l.length wc false (if k = 0 then (fun _ => INF) else start s0) (if k = 0 then [] else [code 0 s0]) A c)) (fun i _ => 1 - (RowKit.intOf i).toNat)
      case atStart => exact ⟨0, Nat.zero_le _, rfl, hid ⟨none, 0, HQ0.out⟩⟩
      case round =>
        obtain ⟨k, hk, rfl, HS⟩ := hrel
        clear HQ0
        by_cases hkn : k < 1
        · have hk0 : k = 0 := by omega
          subst hk0
          obtain ⟨A, c, hSR⟩ := HS.out
          simp only [if_true] at hSR
          obtain ⟨b1, o1, rfl, hb1, x0⟩ := ints_at (HEA.out.same hSR.same) (k := 0) (a := (s0 : Int)) rfl
          have x0' : wr.cell? ⟨b1, o1, none⟩ = some (.int .i64 (s0 : Int)) := x0
          clear x0
          have HIN := hid (isNode_any wr g N l E cE po pi (HG.out.same hSR.same) (by omega) (s0 : Int) (by omega) (by omega))
          have c4 : wr.cell? ⟨s, 0, none⟩ = some (.pointer (some ⟨g, 0, none⟩)) := hSR.b4.at_ 0
          have c9 : wr.cell? ⟨s + 4, 0, none⟩ = some (.slice (some ⟨s + 3, 0, none⟩) N N) := hSR.b9.at_ 0
          have cr : wr.cell? ⟨s + 3, s0, none⟩ = some (.int .i64 4611686018427387904) := (hSR.row.at_ s0).trans (by rw [List.getElem?_toArray]; exact distL_at _ hs0)
          have fr := hSR.row.free s0
          have hn0 : (0 : Int) ≤ (s0 : Int) := Int.natCast_nonneg _
          have hn1 : (s0 : Int) < (N : Int) := by omega
          have HSS := hid (hSR.set hs0 0)
          have HPU := hid (push_any (wr.setCell ⟨s + 3, s0, none⟩ (.int .i64 0)) (s + 5) (s + 6) A c [] 0 s0 HSS.out.qm (by omega) (by omega) (by omega) (by simp))
          clear hSR
          gi_wp2_with (first
            | (refine ⟨trivial, ?_⟩; gi_at_call 24; refine (callsIn_wide.2 HIN.out).mono ?_; rintro e w2 ⟨rfl, rfl⟩)
            | (refine ⟨trivial, ?_⟩; gi_at_call 31; refine (callsIn_wide.2 HPU.out).mono ?_; rintro e w2 ⟨A2, c2, l2, rfl, hp2, hq2, hk2, ha2⟩; have HQ2 := hid hq2; have HK2 := hid hk2; have HP2 := hid hp2; clear hq2 hk2 hp2 ha2))
          go_roundw
          case rel =>
            refine ⟨1, by omega, by go_num, hid ⟨A2, c2, ?_⟩⟩
            have hl2 : l2 = [code 0 s0] := List.perm_singleton.1 HP2.out
            subst hl2
            have h1 := HSS.out.turn HK2.out HQ2.out
            have he : upd (fun _ => INF) s0 0 = start s0 := rfl
            rw [he] at h1
            exact h1
          case measure => simp [RowKit.intOf]
        · have hke : k = 1 := by omega
          subst hke
          obtain ⟨A, c, hSR⟩ := HS.out
          simp only [show (1 : Nat) ≠ 0 from by omega, if_false] at hSR
          have c4 : wr.cell? ⟨s, 0, none⟩ = some (.pointer (some ⟨g, 0, none⟩)) := hSR.b4.at_ 0
          have c7 : wr.cell? ⟨s + 2, 0, none⟩ = some (.bool false) := hSR.b7.at_ 0
          have HSR := hid hSR
          have HRN := hid (start_rnd HGO.out (show N ≤ 4096 by omega) hs0)
          clear hSR HS
          gi_wp2
          have HB := hid (show bndB (wgB N l ws) Wm ≤ 1125899906842624 ∧ N * (bndB (wgB N l ws) Wm).toNat ≤ 8796093022207 from bnd_small HGO.out rfl hN hWm)
          refine wpIn_loop_st (S := (Nat → Int) × List Int) (fun st a' w' => ∃ (ds : List Nat) (A : Option Addr) (c : Nat), Hid (SR w w' g s N wa l.length wc false st.1 st.2 A c ∧ Rnd (wgB N l ws) Wm s0 st.1 st.2 ∧ Marks w' ds ∧ ∀ D ∈ ds, s ≤ D) ∧ ∃ U : Nat → Value, a' = { tmps := #[.pointer (some ⟨g, 0, none⟩), .slice wa l.length wc, .slice ea 1 ec, .bool false, .pointer (some ⟨s, 0, none⟩), .pointer (some ⟨s + 1, 0, none⟩), undef, .pointer (some ⟨s + 2, 0, none⟩), .slice none 0 0, .pointer (some ⟨s + 4, 0, none⟩), u10, .pointer (some ⟨s + 5, 0, none⟩), undef, u13, .func (.func 32) #[.pointer (some ⟨g, 0, none⟩)] #[], U 15, U 16, U 17, U 18, U 19, U 20, .pointer (some ⟨g, 0, none⟩), .int .i64 N, .slice (some ⟨s + 3, 0, none⟩) N N, .slice (some ⟨s + 3, 0, none⟩) N N, .int .i64 N, .int .i64 N, .bool false, u28, u29, u30, u31, u32, .slice ea 1 ec, .int .i64 1, .int .i64 ((1 : Nat) : Int), .bool false, u37, u38, u39, u40, u41, u42, u43, u44, u45, u46, u47, u48, u49, u50, u51, u52, u53, u54, .pointer (some ⟨g, 0, none⟩), .func (.func 32) #[.pointer (some ⟨g, 0, none⟩)] #[], .bool false, undef, undef, U 60, U 61, U 62, U 63, U 64, U 65, U 66, U 67, U 68, U 69, U 70, U 71, U 72, U 73, U 74, U 75, U 76, U 77, U 78, U 79, U 80, U 81, U 82, U 83, U 84, U 85, U 86, U 87, U 88, U 89, U 90, U 91, U 92, U 93, U 94, U 95, U 96, U 97, U 98, U 99, U 100, U 101, U 102, U 103, U 104, U 105, U 106, U 107, U 108, U 109, U 110, U 111, U 112, U 113, U 114, U 115, U 116, U 117, U 118, U 119, U 120, U 121], defers := ds.map markD }) (fun st => meas (wgB N l ws) Wm st.1 st.2) ⟨(start s0, [code 0 s0]), [], A, c, hid ⟨HSR.out, HRN.out, ⟨List.nodup_nil, fun D hD => by cases hD⟩, fun D hD => by cases hD⟩, fun _ => undef, rfl⟩ ?_
          rintro ⟨D, q⟩ a' W1 ⟨ds, A1, c1, HX, U, rfl⟩
          try dsimp only at HX ⊢
          clear HSR HRN c4 c7
          by_cases hq : q = []
          · subst hq
            obtain ⟨hSR, hR, hmk, hds⟩ := HX.out
            have c11 : W1.cell? ⟨s + 5, 0, none⟩ = some (.slice A1 0 c1) := hSR.qm.blk.at_ 0
            have c9 : W1.cell? ⟨s + 4, 0, none⟩ = some (.slice (some ⟨s + 3, 0, none⟩) N N) := hSR.b9.at_ 0
            have HD := hid hR.dist
            have HSR := hid hSR
            have HMK := hid hmk
            have HDS := hid hds
            clear hSR hR hmk hds HX
            gi_wp2
            show LeavesInM Fence.wide 6 Try.prog Try.f21 _ _ (ds.map markD) .returning _
            refine leaves_marks ds _ HMK.out (fun W' hk' => ?_)
            have hrow := HSR.out.row.keep hk' (fun e => by
              have h1 := HMK.out.2 _ e
              have h2 : W1.heap[s + 3]? = _ := HSR.out.row
              rw [h1] at h2; cases h2)
            exact ⟨_, results_tmp rfl _ _ _, s + 3, D, rfl, hrow, HD.out, HSR.out.same.trans hk' (fun i hi e => by have := HDS.out i e; omega), by omega⟩
          · have HXX := HX
            obtain ⟨hSR, hR, hmk, hds⟩ := HXX.out
            have hql : 0 < q.length := List.length_pos_iff.2 hq
            have c11 : W1.cell? ⟨s + 5, 0, none⟩ = some (.slice A1 q.length c1) := hSR.qm.blk.at_ 0
            have HPP := hid (pop_any W1 (s + 5) (s + 6) A1 c1 q hSR.qm hq (fun z hz => by
              obtain ⟨y, v, e1, e2, e3, e4, e5⟩ := hR.que.el z hz
              have hv : v < N := e2
              exact ⟨y, v, e1, e4, by have := HB.out.1; omega, by omega⟩) (by have h1 : q.length + sumB D (bndB (wgB N l ws) Wm) N ≤ N * (bndB (wgB N l ws) Wm).toNat := hR.que.len; have := HB.out.2; omega))
            have c9 : W1.cell? ⟨s + 4, 0, none⟩ = some (.slice (some ⟨s + 3, 0, none⟩) N N) := hSR.b9.at_ 0
            clear hSR hR hmk hds HXX
            gi_upto_region 20 with (first | (refine ⟨trivial, ?_⟩; gi_at_call 33; refine (callsIn_wide.2 HPP.out).mono ?_; rintro e w2 ⟨c2, q2, d, u, rfl, hu2, hd2, hp2, hq2, hk2⟩; have HQ2 := hid hq2; have HK2 := hid hk2; have HP2 := hid hp2; have HDU := hid (show u < 4096 ∧ 0 ≤ d from ⟨hu2, hd2⟩); clear hq2 hk2 hp2 hu2 hd2))
            obtain ⟨hSR, hR, hmk, hds⟩ := HX.out
            obtain ⟨y, v, e1, e2, e3, e4, e5, e6, e7⟩ := hR.pop HP2.out
            have hvN : v < N := e2
            obtain ⟨hy, hv⟩ := code_inj HDU.out.1 (show v < 4096 by omega) e1
            subst hy hv
            have HT := hid (hSR.turn HK2.out HQ2.out)
            have hkA := (Keep.refl (fun _ => False) w2).alloc (.cells #[.int .i64 d] 2)
            have HSR3 := hid (HT.out.more hkA)
            have HZ := hid (Blk.made w2 2 #[.int .i64 d])
            have HMK3 := hid ((hmk.st (hSR.kf HK2.out 0)).keep hkA (fun _ _ f => f.elim))
            have hsz2 : (w2.alloc (.cells #[.int .i64 d] 2)).heap.size = w2.heap.size + 1 := World.size_alloc _ _
            have HAZ := hid (show ∀ i, A1.map (·.block) = some i → i < w2.heap.size from fun i hi => by
              rcases HQ2.out.own.2 with ⟨e2, _⟩ | ⟨gg, cap, cur, e2, _, hh, _⟩
              · injection e2 with e2 _ _; subst e2; cases hi
              · injection e2 with e2 _ _; subst e2
                injection hi with hi
                subst hi
                exact Blk.lt (t := 2) (cs := cur) hh)
            have htop : s + 6 ≤ w2.heap.size := HQ2.out.top
            have HDS := hid hds
            clear hSR hR hmk hds e1 e2 hkA c9
            generalize w2.alloc (.cells #[.int .i64 d] 2) = W3 at *
            obtain ⟨z, hz⟩ : ∃ z, z = w2.heap.size := ⟨_, rfl⟩
            rw [← hz] at HZ hsz2 HAZ htop ⊢
            clear hz
            have c15 : W3.cell? ⟨z, 0, none⟩ = some (.int .i64 d) := HZ.out.at_ 0
            have c9 : W3.cell? ⟨s + 4, 0, none⟩ = some (.slice (some ⟨s + 3, 0, none⟩) N N) := HSR3.out.b9.at_ 0
            have cr : W3.cell? ⟨s + 3, u, none⟩ = some (.int .i64 (D u)) := (HSR3.out.row.at_ u).trans (by rw [List.getElem?_toArray]; exact distL_at _ hvN)
            have hu0 : (0 : Int) ≤ (u : Int) := Int.natCast_nonneg _
            have hu1 : (u : Int) < (N : Int) := by omega
            have HE7 := hid e7
            have HE5 := hid e5
            clear e7 e5 e3 e4 e6
            by_cases hgt : D u < d
            · refine wpIn_wide.2 ?_
              go_quiet (fail)
              have HF := hid (show SR w (W3.drewN nq) g s N wa l.length wc false D q2 A1 c2 ∧ Rnd (wgB N l ws) Wm s0 D q2 ∧ Marks (W3.drewN nq) ds ∧ ∀ D ∈ ds, s ≤ D from ⟨HSR3.out.more ((Keep.refl _ _).drewN _), by
                rcases HE7.out with ⟨_, h⟩ | ⟨h, _⟩
                · exact h
                · omega, HMK3.out.keep ((Keep.refl (fun _ => False) W3).drewN nq) (fun _ _ f => f.elim), HDS.out⟩)
              gi_wp2
              exact ⟨(D, q2), ⟨ds, A1, c2, HF, frame_fn (by rfl)⟩, HE5.out⟩
            · refine wpIn_wide.2 ?_
              go_quiet (fail)
              have HMID := hid (show Mid (wgB N l ws) Wm s0 D q2 u d (fun _ => False) from by
                rcases HE7.out with ⟨h, _⟩ | ⟨_, h⟩
                · omega
                · exact h)
              have HSR4 := hid (HSR3.out.more ((Keep.refl _ _).drewN nq))
              have HMK4 := hid (HMK3.out.keep ((Keep.refl (fun _ => False) W3).drewN nq) (fun _ _ f => f.elim))
              have HZ4 := hid (HZ.out.drewN nq)
              have hsz4 : (W3.drewN nq).heap.size = z + 1 := hsz2
              clear HSR3 HMK3 HZ hsz2 c15 c9 cr HE7 HT
              generalize W3.drewN nq = W4 at *
              gi_wp2_with (first | (refine ⟨trivial, ?_⟩; gi_at_call 32; refine (callsIn_wide.2 (inE_any W4 g N l E cE po pi (HG.out.same HSR4.out.same) (u : Int))).mono ?_; rintro e w5 ⟨rfl, rfl⟩))
              have hk5 : Same W4 ((W4.alloc (.cells #[.slice (some ⟨pi, 0, none⟩) N N] 70)).alloc (.cells #[.int .i64 (u : Int)] 3)) := ((Keep.refl _ W4).alloc _).alloc _
              have HSR5 := hid (HSR4.out.more hk5)
              have HMK5 := hid (HMK4.out.keep hk5 (fun _ _ f => f.elim))
              have HZ5 := hid (HZ4.out.keep hk5 (fun f => f))
              have HBh := hid (Blk.made (W4.alloc (.cells #[.slice (some ⟨pi, 0, none⟩) N N] 70)) 3 #[.int .i64 (u : Int)])
              have HBl := hid ((Blk.made W4 70 #[.slice (some ⟨pi, 0, none⟩) N N]).alloc (.cells #[.int .i64 (u : Int)] 3))
              have hsz5 : (((W4.alloc (.cells #[.slice (some ⟨pi, 0, none⟩) N N] 70)).alloc (.cells #[.int .i64 (u : Int)] 3))).heap.size = z + 3 := by simp only [World.size_alloc, hsz4]
              rw [World.size_alloc, hsz4] at HBh
              rw [hsz4] at HBl
              clear hk5 HSR4 HMK4 HZ4
              simp only [hsz4, Nat.add_assoc, Nat.reduceAdd] at *
              clear hsz4
              generalize ((W4.alloc (.cells #[.slice (some ⟨pi, 0, none⟩) N N] 70)).alloc (.cells #[.int .i64 (u : Int)] 3)) = W5 at *
              obtain ⟨Ar, cr, hrow0, hsl0⟩ := HPO.out u hvN
              have hrow := (HSR5.out.same.cell (range_lt hrow0) (fun f => f)).trans hrow0
              have hsl := hsl0.old.same HSR5.out.same
              rw [hsz] at hsl
              have hpo : pi < W5.heap.size := Nat.lt_of_lt_of_le (range_lt hrow0) HSR5.out.same.size
              have hlo := outP_le E3.b l u l.length
              refine wpIn_rangeFunc_ownG rfl (by decide) (gf := 38) (lb := #[.pointer (some ⟨z + 2, 0, none⟩), .pointer (some ⟨z + 1, 0, none⟩)]) rfl trivial (enters_of Try.func38 (by kernel_rfl) rfl)
                (enum_mem _ (by decide) (z + 2) (z + 1) s pi N u Ar cr (outP E3.b l u l.length) (by omega) (by omega) W5 (by omega) (by omega) (by omega) hpo (HBh.out.at_ 0) (HBl.out.at_ 0) hvN hrow hsl) belowK_t (belowK_b (by omega)) (Below.refl _ _) (fun _ => rfl)
                (I3 w g s N wa l.length wc false (wgB N l ws) Wm s0 u d z (meas (wgB N l ws) Wm D q2) ds) (fun _ _ _ => False)
                (fun pre A B row hs hg hr => by
                  obtain ⟨D', q', A', c', h1, h2, h3, h4, h5, h6⟩ := hs
                  exact ⟨D', q', A', c', h1.grownX hg (fun r e => (hr r e).2) (fun r e => by have := (hr r e).1; omega), h2, ⟨h3.1, fun D hD => (hg.block D (h3.lt D hD) (fun e => by have := (hr D e.symm).1; have := HMK5.out.lt D hD; omega)).trans (h3.2 D hD)⟩, h4.grownX hg (fun r e => (hr r e).2), h5, h6⟩)
                (fun _ _ _ _ _ hs _ _ => hs)
                ⟨D, q2, A1, c2, HSR5.out, HMID.out.sub (fun i hi => by cases hi), HMK5.out, HZ5.out, fun i hi => by have := HAZ.out i hi; omega, Nat.le_refl _⟩ ?a1 ?assign2 ?body2 ?done2 ?stop2
              case assign2 =>
                intro l1 x W K hK
                gi_wp2
                exact hK
              case body2 =>
                rintro l1 pre ⟨y, hy⟩ W hI hlt
                obtain ⟨i, e, hi, he, hea, rfl⟩ := outP_mem.1 hy
                obtain ⟨D1, q1, A2, c3, hsr, hmid, hmk, hz1, haz, hm0⟩ := hI
                obtain ⟨⟨p1, p2⟩, p3, p4⟩ := HOK.out e (List.mem_of_getElem? he)
                obtain ⟨ta, hta⟩ : ∃ n : Nat, e.a = n := ⟨_, (Int.toNat_of_nonneg (by omega)).symm⟩
                have htN : ta < N := by omega
                have hwl : ws.length = l.length := by have := HW.out.len; simpa [icellsC] using this
                obtain ⟨wi, hwi⟩ := get_some (l := ws) (k := i) (by omega)
                obtain ⟨b1, o1, hE, hb1, x0⟩ := ints_at HW.out hwi
                have hGw : (wgB N l ws).wt i = wi := by
                  show ws[i]?.getD INF = wi
                  rw [hwi]; rfl
                have hGt : (wgB N l ws).to_ i = ta := by
                  show ((l[i]?.map E3.a).getD 0).toNat = ta
                  rw [he]
                  show (E3.a e).toNat = ta
                  rw [hta]; rfl
                have hGf : (wgB N l ws).fr i = u := by
                  show ((l[i]?.map E3.b).getD 0).toNat = u
                  rw [he]
                  show (E3.b e).toNat = u
                  rw [hea]; rfl
                have hsm := hmid.que.lab.small hmid.uN (by rw [hmid.du]; exact hmid.fin)
                rw [hmid.du] at hsm
                have hd0 := hmid.que.lab.lo _ hmid.uN
                rw [hmid.du] at hd0
                have hWN := HGO.out.WN
                have HWI := hid (show wi ≠ INF → 1 ≤ wi ∧ wi ≤ Wm from fun h => by have := HGO.out.w1 i hi (by rw [hGw]; exact h); rw [hGw] at this; exact this)
                have HED := hid (edge_any W g N l E cE po pi (HG.out.same hsr.same) hl i e he)
                have c4 : W.cell? ⟨s, 0, none⟩ = some (.pointer (some ⟨g, 0, none⟩)) := hsr.b4.at_ 0
                have HS := hid (show SR w W g s N wa l.length wc false D1 q1 A2 c3 ∧ Mid (wgB N l ws) Wm s0 D1 q1 u d (fun i => (i : Int) ∈ pre.map (·.1)) ∧ Marks W ds ∧ Blk W z 2 #[.int .i64 d] ∧ (∀ i, A2.map (·.block) = some i → i ≠ z) ∧ meas (wgB N l ws) Wm D1 q1 ≤ meas (wgB N l ws) Wm D q2 from ⟨hsr, hmid, hmk, hz1, haz, hm0⟩)
                have HEQ := hid (show (wgB N l ws).wt i = wi ∧ (wgB N l ws).to_ i = ta ∧ (wgB N l ws).fr i = u ∧ d + Wm ≤ Wm * (N : Int) ∧ 0 ≤ d ∧ Wm * (N : Int) < 1125899906842624 ∧ i < l.length from ⟨hGw, hGt, hGf, hsm, hd0, hWN, hi⟩)
                have HTA := hid hta
                clear hsr hmid hmk hz1 haz hm0 p1 p2 p3 p4 hta hwl hwi hGw hGt hGf hsm hd0 hWN he
                gi_upto_region 24 with (first | (refine ⟨trivial, ?_⟩; gi_at_call 26; refine (CallsIn.inRound l1 (callsIn_wide.2 HED.out)).mono ?_; rintro _ w3 ⟨rfl, hk3⟩; have HK3 := hid hk3; clear hk3))
                have HE := hid hE
                have hk4 := HK3.out.then ((Keep.refl (fun _ => False) w3).alloc (.cells #[.int .i64 e.a, .int .i64 (u : Int), .int .i64 e.c] 49))
                have hz4 := Blk.made w3 49 #[.int .i64 e.a, .int .i64 (u : Int), .int .i64 e.c]
                generalize w3.alloc (.cells #[.int .i64 e.a, .int .i64 (u : Int), .int .i64 e.c] 49) = W3 at *
                obtain ⟨yy, hyy⟩ : ∃ yy, yy = w3.heap.size := ⟨_, rfl⟩
                rw [← hyy] at hz4 ⊢
                have pa : W3.cell? ⟨yy, 0, none⟩ = some (.int .i64 (ta : Int)) := (hz4.at_ 0).trans (by rw [← HTA.out]; rfl)
                have pb : W3.cell? ⟨yy, 1, none⟩ = some (.int .i64 (u : Int)) := hz4.at_ 1
                have c7 : W3.cell? ⟨s + 2, 0, none⟩ = some (.bool false) := (HS.out.1.more hk4).b7.at_ 0
                have HKW := hid hk4
                have HX0 := hid x0
                clear c4 hyy hz4 hk4 x0 hE
                gi_upto_region 27 with fail
                clear pa pb c7
                have c5 : W3.cell? ⟨s + 1, 0, none⟩ = some (.slice (some ⟨b1, o1, none⟩) l.length wc) := ((HS.out.1.more HKW.out).b5.at_ 0).trans (by rw [HE.out]; rfl)
                have c9 : W3.cell? ⟨s + 4, 0, none⟩ = some (.slice (some ⟨s + 3, 0, none⟩) N N) := (HS.out.1.more HKW.out).b9.at_ 0
                have cr : W3.cell? ⟨s + 3, ta, none⟩ = some (.int .i64 (D1 ta)) := ((HS.out.1.more HKW.out).row.at_ ta).trans (by rw [List.getElem?_toArray]; exact distL_at _ htN)
                have c15 : W3.cell? ⟨z, 0, none⟩ = some (.int .i64 d) := (HS.out.2.2.2.1.keep HKW.out (fun f => f)).at_ 0
                have x1 : W3.cell? ⟨b1, o1 + i, none⟩ = some (.int .i64 wi) := ((HS.out.1.same.then HKW.out).cell (range_lt HX0.out) (fun f => f)).trans HX0.out
                have hi0 : (0 : Int) ≤ (i : Int) := Int.natCast_nonneg _
                have hi1 : (i : Int) < (l.length : Int) := by have := HEQ.out.2.2.2.2.2.2; omega
                have ht0 : (0 : Int) ≤ (ta : Int) := Int.natCast_nonneg _
                have ht1 : (ta : Int) < (N : Int) := by omega
                by_cases hinf : wi = INF
                · have hne : (wi != 4611686018427387904) = false := by rw [hinf]; rfl
                  have HSK := hid (show wi = INF ∨ ¬ d + wi < D1 ta from Or.inl hinf)
                  clear hinf
                  refine wpIn_region_quiet_round (by kernel_rfl) (by kernel_rfl) (by kernel_rfl) ?_
                  repeat (go_big_quiet_step (fail))
                  refine wpQuiet_nil ?_
                  intro _ hw1
                  obtain ⟨nq, hw2⟩ := hw1
                  subst hw2
                  have HIN := hid (show I3 w g s N wa l.length wc false (wgB N l ws) Wm s0 u d z (meas (wgB N l ws) Wm D q2) ds (pre ++ [⟨(i : Int), hy⟩]) (W3.drewN nq) from by
                    have hk4 : Same W (W3.drewN nq) := HKW.out.then ((Keep.refl (fun _ => False) _).drewN nq)
                    exact ⟨D1, q1, A2, c3, HS.out.1.more hk4, (HS.out.2.1.skip (i := i) (by rw [HEQ.out.1, HEQ.out.2.1]; exact HSK.out)).sub (fun j hj => by
                    rw [List.map_append, List.mem_append] at hj
                    rcases hj with hj | hj
                    · exact Or.inl hj
                    · simp only [List.map_cons, List.map_nil, List.mem_singleton] at hj
                      exact Or.inr (by omega)), HS.out.2.2.1.keep hk4 (fun _ _ f => f.elim), HS.out.2.2.2.1.keep hk4 (fun f => f), HS.out.2.2.2.2.1, HS.out.2.2.2.2.2⟩)
                  have HST := hid (show St s 0 W (W3.drewN nq) from St.of_same (HKW.out.then ((Keep.refl (fun _ => False) _).drewN nq)))
                  have htW := HS.out.1.qm.top
                  gi_wp2
                  exact ⟨KeepsFrom.up HST.out.kf, HST.out.below (by omega), HIN.out⟩
                · have hne : (wi != 4611686018427387904) = true := by simp only [bne_iff_ne, ne_eq]; exact hinf
                  have HINF := hid hinf
                  obtain ⟨x2, hx2⟩ : ∃ x2, x2 = d + wi := ⟨_, rfl⟩
                  have HX2 := hid hx2
                  have hwb := HWI.out hinf
                  have hwr : IntKind.i64.wrap (d + wi) = x2 := by rw [IntKind.wrap_i64]; have := HEQ.out.2.2.2; omega
                  clear hinf hx2
                  by_cases hlt : x2 < D1 ta
                  · refine wpIn_region_quiet_round (by kernel_rfl) (by kernel_rfl) (by kernel_rfl) ?_
                    repeat (go_big_quiet_step (fail))
                    refine wpQuiet_nil ?_
                    intro _ hw1
                    obtain ⟨nq, hw2⟩ := hw1
                    subst hw2
                    clear hne
                    gi_upto_region 28 with fail
                    have k5 : Same W (W3.drewN nq) := HKW.out.then ((Keep.refl (fun _ => False) _).drewN nq)
                    have d0 : (W3.drewN nq).cell? ⟨s + 4, 0, none⟩ = some (.slice (some ⟨s + 3, 0, none⟩) N N) ∧ (W3.drewN nq).cell? ⟨z, 0, none⟩ = some (.int .i64 d) ∧ (W3.drewN nq).cell? ⟨s + 1, 0, none⟩ = some (.slice (some ⟨b1, o1, none⟩) l.length wc) ∧ (W3.drewN nq).cell? ⟨b1, o1 + i, none⟩ = some (.int .i64 wi) := ⟨c9, c15, c5, x1⟩
                    have dr : (W3.drewN nq).cell? ⟨s + 3, ta, none⟩ = some (.int .i64 (D1 ta)) := cr
                    have fr : (W3.drewN nq).frozen? ⟨s + 3, ta, none⟩ = false := (HS.out.1.more k5).row.free ta
                    clear c9 c15 c5 x1 cr
                    have HK5 := hid k5
                    clear k5
                    generalize W3.drewN nq = W4 at *
                    have HXS := hid (((HS.out.1.more HK5.out).set htN x2).more ((Keep.refl (fun _ => False) (W4.setCell ⟨s + 3, ta, none⟩ (.int .i64 x2))).drew))
                    have HC9 := hid (show (W4.setCell ⟨s + 3, ta, none⟩ (.int .i64 x2)).drew.cell? ⟨s + 4, 0, none⟩ = some (.slice (some ⟨s + 3, 0, none⟩) N N) ∧ (W4.setCell ⟨s + 3, ta, none⟩ (.int .i64 x2)).drew.cell? ⟨z, 0, none⟩ = some (.int .i64 d) ∧ (W4.setCell ⟨s + 3, ta, none⟩ (.int .i64 x2)).drew.cell? ⟨s + 1, 0, none⟩ = some (.slice (some ⟨b1, o1, none⟩) l.length wc) ∧ (W4.setCell ⟨s + 3, ta, none⟩ (.int .i64 x2)).drew.cell? ⟨b1, o1 + i, none⟩ = some (.int .i64 wi) from ⟨HXS.out.b9.at_ 0, (((HS.out.2.2.2.1.keep HK5.out (fun f => f)).far (show z ≠ (⟨s + 3, ta, none⟩ : Addr).block from by show z ≠ s + 3; omega) _).drew).at_ 0, (HXS.out.b5.at_ 0).trans (by rw [HE.out]; rfl),
                      (World.cell?_setCell_far W4 ⟨s + 3, ta, none⟩ ⟨b1, o1 + i, none⟩ _ (by show s + 3 ≠ b1; have h8 : b1 < w.heap.size := range_lt HX0.out; omega)).trans d0.2.2.2⟩)
                    refine wpIn_region_held_round (S := fun W => W.cell? ⟨s + 4, 0, none⟩ = some (.slice (some ⟨s + 3, 0, none⟩) N N) ∧ W.cell? ⟨z, 0, none⟩ = some (.int .i64 d) ∧ W.cell? ⟨s + 1, 0, none⟩ = some (.slice (some ⟨b1, o1, none⟩) l.length wc) ∧ W.cell? ⟨b1, o1 + i, none⟩ = some (.int .i64 wi)) (by kernel_rfl) (by kernel_rfl) d0 (fun hHeld => ?_)
                    refine takeO (i := 0) (v := ?_) (by kernel_rfl) (by kernel_rfl) (by kernel_rfl) (fun c a d v w h => h) (oi := ?_) ?_ ?_ (by assumption) ?_
                    rotate_left 2
                    · (simp only [List.getElem?_toArray, List.getElem?_cons_zero]; rfl)
                    · (refine Or.inl ⟨by rfl, ?_⟩; intro w hSw; (try dsimp only at hSw); obtain ⟨hS1, hS2, hS3, hS4⟩ := hSw; go_simp; try with_reducible rfl)
                    try simp only [Act.put, List.setIfInBounds_toArray, List.set_cons_zero, List.set_cons_succ]
                    refine takeO (i := 1) (v := ?_) (by kernel_rfl) (by kernel_rfl) (by kernel_rfl) (fun c a d v w h => h) (oi := ?_) ?_ ?_ (by assumption) ?_
                    rotate_left 2
                    · (simp only [List.getElem?_toArray, List.getElem?_cons_succ, List.getElem?_cons_zero]; rfl)
                    · (refine Or.inl ⟨by rfl, ?_⟩; intro w hSw; (try dsimp only at hSw); obtain ⟨hS1, hS2, hS3, hS4⟩ := hSw; go_simp; try with_reducible rfl)
                    try simp only [Act.put, List.setIfInBounds_toArray, List.set_cons_zero, List.set_cons_succ]
                    refine takeO (i := 2) (v := ?_) (by kernel_rfl) (by kernel_rfl) (by kernel_rfl) (fun c a d v w h => h) (oi := ?_) ?_ ?_ (by assumption) ?_
                    rotate_left 2
                    · (simp only [List.getElem?_toArray, List.getElem?_cons_succ, List.getElem?_cons_zero]; rfl)
                    · (refine Or.inl ⟨by rfl, ?_⟩; intro w hSw; (try dsimp only at hSw); obtain ⟨hS1, hS2, hS3, hS4⟩ := hSw; go_simp; try with_reducible rfl)
                    try simp only [Act.put, List.setIfInBounds_toArray, List.set_cons_zero, List.set_cons_succ]
                    refine takeO (i := 3) (v := ?_) (by kernel_rfl) (by kernel_rfl) (by kernel_rfl) (fun c a d v w h => h) (oi := ?_) ?_ ?_ (by assumption) ?_
                    rotate_left 2
                    · (simp only [List.getElem?_toArray, List.getElem?_cons_succ, List.getElem?_cons_zero]; rfl)
                    · (refine Or.inl ⟨by rfl, ?_⟩; intro w hSw; (try dsimp only at hSw); obtain ⟨hS1, hS2, hS3, hS4⟩ := hSw; go_simp; try with_reducible rfl)
                    try simp only [Act.put, List.setIfInBounds_toArray, List.set_cons_zero, List.set_cons_succ]
                    refine takeO (i := 4) (v := ?_) (by kernel_rfl) (by kernel_rfl) (by kernel_rfl) (fun c a d v w h => h) (oi := ?_) ?_ ?_ (by assumption) ?_
                    rotate_left 2
                    · (simp only [List.getElem?_toArray, List.getElem?_cons_succ, List.getElem?_cons_zero]; rfl)
                    · (refine Or.inl ⟨by rfl, ?_⟩; intro w hSw; (try dsimp only at hSw); obtain ⟨hS1, hS2, hS3, hS4⟩ := hSw; go_simp; try with_reducible rfl)
                    try simp only [Act.put, List.setIfInBounds_toArray, List.set_cons_zero, List.set_cons_succ]
                    refine takeO (i := 5) (v := ?_) (by kernel_rfl) (by kernel_rfl) (by kernel_rfl) (fun c a d v w h => h) (oi := ?_) ?_ ?_ (by assumption) ?_
                    rotate_left 2
                    · (simp only [List.getElem?_toArray, List.getElem?_cons_succ, List.getElem?_cons_zero]; rfl)
                    · (refine Or.inl ⟨by rfl, ?_⟩; intro w hSw; (try dsimp only at hSw); obtain ⟨hS1, hS2, hS3, hS4⟩ := hSw; go_simp; try with_reducible rfl)
                    try simp only [Act.put, List.setIfInBounds_toArray, List.set_cons_zero, List.set_cons_succ]
                    refine takeO (i := 6) (v := ?_) (by kernel_rfl) (by kernel_rfl) (by kernel_rfl) (fun c a d v w h => h) (oi := ?_) ?_ ?_ (by assumption) ?_
                    rotate_left 2
                    · (simp only [List.getElem?_toArray, List.getElem?_cons_succ, List.getElem?_cons_zero]; rfl)
                    · (refine Or.inl ⟨by rfl, ?_⟩; intro w hSw; (try dsimp only at hSw); obtain ⟨hS1, hS2, hS3, hS4⟩ := hSw; go_simp; try with_reducible rfl)
                    try simp only [Act.put, List.setIfInBounds_toArray, List.set_cons_zero, List.set_cons_succ]
                    refine takeO (i := 7) (v := ?_) (by kernel_rfl) (by kernel_rfl) (by kernel_rfl) (fun c a d v w h => h) (oi := ?_) ?_ ?_ (by assumption) ?_
                    rotate_left 2
                    · (simp only [List.getElem?_toArray, List.getElem?_cons_succ, List.getElem?_cons_zero]; rfl)
                    · (refine Or.inl ⟨by rfl, ?_⟩; intro w hSw; (try dsimp only at hSw); obtain ⟨hS1, hS2, hS3, hS4⟩ := hSw; go_simp; try with_reducible rfl)
                    try simp only [Act.put, List.setIfInBounds_toArray, List.set_cons_zero, List.set_cons_succ]
                    refine takeO (i := 8) (v := ?_) (by kernel_rfl) (by kernel_rfl) (by kernel_rfl) (fun c a d v w h => h) (oi := ?_) ?_ ?_ (by assumption) ?_
                    rotate_left 2
                    · (simp only [List.getElem?_toArray, List.getElem?_cons_succ, List.getElem?_cons_zero]; rfl)
                    · (refine Or.inl ⟨by rfl, ?_⟩; intro w hSw; (try dsimp only at hSw); obtain ⟨hS1, hS2, hS3, hS4⟩ := hSw; go_simp; try with_reducible rfl)
                    try simp only [Act.put, List.setIfInBounds_toArray, List.set_cons_zero, List.set_cons_succ]
                    refine wpAnyH_ready (rs := [9]) (by kernel_rfl) (by simp) ?_
                    refine AllReadyH.cons rfl (fun K hK => ?_) AllReadyH.nil
                    go_simp
                    refine hK.out _ _ HC9.out (fun hHeldZ => ?_)
                    clear hK K
                    try simp only [Act.put, List.setIfInBounds_toArray, List.set_cons_zero, List.set_cons_succ]
                    refine wpAnyH_done (by kernel_rfl) ?_ _
                    refine noOut_normal ?_
                    clear hHeld hHeldZ d0 dr fr
                    have hx0 : 0 ≤ x2 := by have := HX2.out; have := HEQ.out.2.2.2.2.1; omega
                    have hx1 : x2 ≤ 1125899906842624 := by have := HX2.out; have := HEQ.out.2.2.2; omega
                    have HPU := hid (push_any (W4.setCell ⟨s + 3, ta, none⟩ (.int .i64 x2)).drew (s + 5) (s + 6) A2 c3 q1 x2 ta HXS.out.qm hx0 hx1 (by omega) (by have h1 : q1.length + sumB D1 (bndB (wgB N l ws) Wm) N ≤ N * (bndB (wgB N l ws) Wm).toNat := HS.out.2.1.que.len; have := HB.out.2; omega))
                    have e9 : (W4.setCell ⟨s + 3, ta, none⟩ (.int .i64 x2)).drew.cell? ⟨s + 4, 0, none⟩ = some (.slice (some ⟨s + 3, 0, none⟩) N N) := HXS.out.b9.at_ 0
                    have e3 : (W4.setCell ⟨s + 3, ta, none⟩ (.int .i64 x2)).drew.cell? ⟨s + 3, ta, none⟩ = some (.int .i64 x2) := (HXS.out.row.at_ ta).trans (by rw [List.getElem?_toArray, distL_at _ htN, upd_at])
                    have HST6 := hid (show St s 0 W (W4.setCell ⟨s + 3, ta, none⟩ (.int .i64 x2)).drew from ((St.of_same HK5.out).trans (St.put 0 W4 ta (.int .i64 x2) (show s ≤ s + 3 by omega))).trans (St.of_same ((Keep.refl (fun _ => False) (W4.setCell ⟨s + 3, ta, none⟩ (.int .i64 x2))).drew)))
                    have HZ6 := hid (show Blk (W4.setCell ⟨s + 3, ta, none⟩ (.int .i64 x2)).drew z 2 #[.int .i64 d] from (((HS.out.2.2.2.1.keep HK5.out (fun f => f)).far (show z ≠ (⟨s + 3, ta, none⟩ : Addr).block from by show z ≠ s + 3; omega) _).drew))
                    clear HC9
                    generalize (W4.setCell ⟨s + 3, ta, none⟩ (.int .i64 x2)).drew = W6 at *
                    gi_wp2_with (first | (refine ⟨trivial, ?_⟩; gi_at_call 31; refine (CallsIn.inRound l1 (callsIn_wide.2 HPU.out)).mono ?_; rintro _ w7 ⟨A7, c7, q7, rfl, hp7, hq7, hk7, hab7⟩; have HP7 := hid hp7; have HQ7 := hid hq7; have HK7 := hid hk7; have HAB7 := hid hab7; clear hp7 hq7 hk7 hab7))
                    have HST7 := hid (HST6.out.trans ⟨HXS.out.kf HK7.out 0, HXS.out.kp HK7.out⟩)
                    have htW := HS.out.1.qm.top
                    have hrx := HS.out.2.1.relax (i := i) (q2 := q7) HEQ.out.2.2.2.2.2.2 HEQ.out.2.2.1 (by rw [HEQ.out.1]; exact HINF.out) (by rw [HEQ.out.1, HEQ.out.2.1, ← HX2.out]; exact hlt) (by rw [HEQ.out.1, HEQ.out.2.1, ← HX2.out]; exact HP7.out)
                    rw [HEQ.out.1, HEQ.out.2.1, ← HX2.out] at hrx
                    refine ⟨KeepsFrom.up HST7.out.kf, HST7.out.below (by omega), upd D1 ta x2, q7, A7, c7, HXS.out.turn HK7.out HQ7.out, hrx.1.sub (fun j hj => by
                      rw [List.map_append, List.mem_append] at hj
                      rcases hj with hj | hj
                      · exact Or.inl hj
                      · simp only [List.map_cons, List.map_nil, List.mem_singleton] at hj
                        exact Or.inr (by omega)), HS.out.2.2.1.st HST7.out.kf, HZ6.out.keep HK7.out (fun e => ?_), fun i hi e => ?_, Nat.le_trans (Nat.le_of_lt hrx.2) HS.out.2.2.2.2.2⟩
                    · rcases e with e | e
                      · omega
                      · exact HS.out.2.2.2.2.1 z e rfl
                    · rcases HAB7.out i hi with h | h
                      · exact HS.out.2.2.2.2.1 i h e
                      · have := HZ6.out.lt; omega
                  · have HSK := hid (show wi = INF ∨ ¬ d + wi < D1 ta from Or.inr (by rw [← HX2.out]; exact hlt))
                    refine wpIn_region_quiet_round (by kernel_rfl) (by kernel_rfl) (by kernel_rfl) ?_
                    repeat (go_big_quiet_step (fail))
                    refine wpQuiet_nil ?_
                    intro _ hw1
                    obtain ⟨nq, hw2⟩ := hw1
                    subst hw2
                    have HIN := hid (show I3 w g s N wa l.length wc false (wgB N l ws) Wm s0 u d z (meas (wgB N l ws) Wm D q2) ds (pre ++ [⟨(i : Int), hy⟩]) (W3.drewN nq) from by
                      have hk4 : Same W (W3.drewN nq) := HKW.out.then ((Keep.refl (fun _ => False) _).drewN nq)
                      exact ⟨D1, q1, A2, c3, HS.out.1.more hk4, (HS.out.2.1.skip (i := i) (by rw [HEQ.out.1, HEQ.out.2.1]; exact HSK.out)).sub (fun j hj => by
                      rw [List.map_append, List.mem_append] at hj
                      rcases hj with hj | hj
                      · exact Or.inl hj
                      · simp only [List.map_cons, List.map_nil, List.mem_singleton] at hj
                        exact Or.inr (by omega)), HS.out.2.2.1.keep hk4 (fun _ _ f => f.elim), HS.out.2.2.2.1.keep hk4 (fun f => f), HS.out.2.2.2.2.1, HS.out.2.2.2.2.2⟩)
                    have HST := hid (show St s 0 W (W3.drewN nq) from St.of_same (HKW.out.then ((Keep.refl (fun _ => False) _).drewN nq)))
                    have htW := HS.out.1.qm.top
                    gi_wp2
                    exact ⟨KeepsFrom.up HST.out.kf, HST.out.below (by omega), HIN.out⟩
              case stop2 =>
                rintro D c pre W _ _ h _
                exact h.elim
              case done2 =>
                rintro Dd ys W hD hys hI hKD
                obtain ⟨D', q', A', c', h1, h2, h3, h4, h5, h6⟩ := hI
                have HF := hid (show SR w W g s N wa l.length wc false D' q' A' c' ∧ Rnd (wgB N l ws) Wm s0 D' q' ∧ Marks W (Dd :: ds) ∧ ∀ E ∈ Dd :: ds, s ≤ E from
                  ⟨h1, h2.done (fun i hi hf => by
                    rw [hys]
                    obtain ⟨e, he⟩ := get_some (l := l) (k := i) hi
                    refine outP_mem.2 ⟨i, e, hi, he, ?_, rfl⟩
                    have h9 := HOK.out e (List.mem_of_getElem? he)
                    have h8 : ((l[i]?.map E3.b).getD 0).toNat = u := hf
                    rw [he] at h8
                    have h7 : (E3.b e).toNat = u := h8
                    have h10 := h9.2.1
                    omega), h3.cons hKD (fun hm => by have := HMK5.out.lt Dd hm; omega), fun E hE => by
                    rcases List.mem_cons.1 hE with rfl | hE
                    · omega
                    · exact HDS.out E hE⟩)
                have HM6 := hid (show meas (wgB N l ws) Wm D' q' < meas (wgB N l ws) Wm D q from Nat.lt_of_le_of_lt h6 HE5.out)
                clear h1 h2 h3 h4 h5 h6 hys hKD hrow hsl hrow0 hsl0
                gi_wp2
                exact ⟨(D', q'), ⟨Dd :: ds, A', c', HF, frame_fn (by rfl)⟩, HM6.out⟩
end Go.Proofs.Ytmllpapkgfclkaa

import Derived.Test.YtmkcphhgimlkgaaDpW
import Derived.Deep.CutRange
namespace Go.Proofs.Ytmkcphhgimlkgaa
open Go.RowKit

def WantsPost (w : World) (ce : Int) (L : List (Int × Int × Int)) (e : Ending) (w' : World) : Prop :=
  ∃ B d, e = .returned (.slice B L.length d) ∧ Sl w' (· < w.heap.size) 19 B L.length (cmds ce L) ∧ Same w w'
set_option maxRecDepth 100000 in
set_option maxHeartbeats 16000000 in
theorem wants_any (w : World) (c : CF) (X : Option Addr) (cx : Nat) (l : List St) (hT : Th w (fun _ => False) X l) (hO : OkL c.cen c.h3 l) (Q : Option Addr) (cq : Nat) (S : List Int) (hS : Sl w (fun _ => False) 1 Q S.length (icellsC S)) (hn : S.length ≤ 1000) (ce now again : Int) (a1 : again ≤ 9223372036854775807) :
    Calls Try.prog 14 #[.agg (map16 c X l.length cx).toArray, .int .i64 ce, .slice Q S.length cq, .int .i64 now, .int .i64 again] w (WantsPost w ce (props c.cen c.h3 ce now again S l)) := by
  have hb := Blk.made w 36 (map16 c X l.length cx).toArray
  have hw : Same w (w.alloc (.cells (map16 c X l.length cx).toArray 36)) := (Keep.refl _ _).alloc _
  generalize hw1 : w.alloc (.cells (map16 c X l.length cx).toArray 36) = w1 at *
  have HB := hid (fun W (hk : Same w1 W) => hb.keep (S := fun _ => False) hk (fun f => f))
  have hlen := hO.len
  have h9 := hO.hi
  have hlo := hO.lo
  have t0 : w1.cell? ⟨w.heap.size, 0, none⟩ = some (.int .i64 (l.length : Int)) := by rw [hlen]; exact hb.at_ 0
  have HC0 := hid (fun W (hk : Same w1 W) => (show W.cell? ⟨w.heap.size, 0, none⟩ = some (.int .i64 (l.length : Int)) from by rw [hlen]; exact (hb.keep (S := fun _ => False) hk (fun f => f)).at_ 0))
  have HNE := hid (fun W (hk : Same w1 W) hce d hd => next_any W (fun _ => False) c X l.length cx l.length hlen.symm (by omega) (by omega) Q cq S ((hS.same hw).same hk) hn ce hce d hd)
  have HSU := hid (fun W (hk : Same w1 W) k => susp_any W (fun _ => False) Q cq S ((hS.same hw).same hk) hn k ce)
  have HT := hid (fun W (hk : Same w1 W) => (hT.same hw).same hk)
  have HW := hid hw
  have HEA := hid hO.each
  have hdu := vL_in hO.dur
  obtain ⟨l1, l2⟩ := hdu
  clear hb hw hT hS
  unfold props
  cases hok : okAsk c.cen ce now
  · rw [if_neg (by simp)]
    have h3 : ce < 0 ∨ (0 ≤ ce ∧ (l.length : Int) ≤ ce) ∨ (0 ≤ ce ∧ ce < (l.length : Int) ∧ now < 0) ∨ (0 ≤ ce ∧ ce < (l.length : Int) ∧ 0 ≤ now ∧ 1099511627776 < now) := by
      rw [okAsk] at hok
      simp [inB] at hok
      omega
    clear hok hO hlen
    rcases h3 with h | ⟨h, h1⟩ | ⟨h, h1, h2⟩ | ⟨h, h1, h2, h4⟩
    all_goals
      go_enter Try.func14, Try.ntmps14
      go_upto_region 1 with fail
      try rw [hw1]
      go_wp2_with fail
      go_ret
      exact ⟨none, 0, rfl, Sl.nil _ _ _ _, HW.out⟩
  · rw [if_pos rfl]
    have hok2 := hok
    simp only [okAsk, Bool.and_eq_true, decide_eq_true_eq] at hok2
    obtain ⟨⟨hic, n0⟩, n1⟩ := hok2
    obtain ⟨ce0, ce1⟩ := inB_in hic
    rw [← hlen] at ce1
    have h64 : (l.length : Int) ≤ 9 := by omega
    clear hok hic hO hlen
    have HP0 := hid (fun k => propsTo_le (n := l.length) (dur := c.h3) (ce := ce) (now := now) (again := again) (p := susB S ce) (l := l) k)
    have HX8 := hid (fun W (hk : Same w1 W) => (HB.out W hk).at_ 8)
    go_enter Try.func14, Try.ntmps14
    go_upto_region 1 with fail
    try rw [hw1]
    go_wp2_with fail
    clear t0
    go_loopw [11, 12] (fun v i wr => ∃ (k : Nat) (B : Option Addr) (cd : Nat), k ≤ l.length ∧ i = .int .i64 k ∧ v = .slice B (propsTo l.length c.h3 ce now again (susB S ce) l k).length cd ∧ Hid (Own wr w1.heap.size 52 19 (.slice B (propsTo l.length c.h3 ce now again (susB S ce) l k).length cd) (propsTo l.length c.h3 ce now again (susB S ce) l k).length (cmds ce (propsTo l.length c.h3 ce now again (susB S ce) l k)) ∧ Same w1 wr)) (fun _ i _ => l.length - (intOf i).toNat)
    case atStart => exact ⟨0, none, 0, by omega, rfl, rfl, hid ⟨Own.nil _ _ _ _, Keep.refl _ _⟩⟩
    case round =>
      obtain ⟨k, B, cd, hk, rfl, rfl, HI⟩ := hrel
      have c0 := HC0.out wr HI.out.2
      by_cases hlt : k < l.length
      · obtain ⟨s, hs⟩ := get_some hlt
        have hk1 : (k : Int) < (l.length : Int) := by omega
        obtain ⟨b, off, hX, hb, p0, p1, p2, p3⟩ := Th.at4 (HT.out wr HI.out.2) hs
        have x15 : wr.cell? ⟨w.heap.size, 15, none⟩ = some (.slice X l.length cx) := (HB.out wr HI.out.2).at_ 15
        rw [hX] at x15
        have HXE := hid hX
        have hu := (HEA.out s (List.mem_of_getElem? hs)).2.2
        obtain ⟨u1, u2⟩ := hu
        have hple := HP0.out k
        have HZ := hid (propAt_zero (n := l.length) (dur := c.h3) (ce := ce) (now := now) (again := again) (p := susB S ce) hs)
        have HNZ := hid (propAt_some (n := l.length) (dur := c.h3) (ce := ce) (now := now) (again := again) (p := susB S ce) hs)
        have HSC := hid (propsTo_succ (n := l.length) (dur := c.h3) (ce := ce) (now := now) (again := again) (p := susB S ce) (l := l) k)
        have HNEk := hid (fun W hk => HNE.out W hk ce0 k hlt)
        have HSUk := hid (fun W hk => HSU.out W hk (k : Int))
        rw [susI_nat] at HSUk
        have hpK : propK l.length c.h3 ce now again (susB S ce) k s = (if s.u < now then (if ce = succK (susB S ce) l.length k then 8 else 0) else if ce ≠ s.h ∨ s.r = true then 0 else if ce ≠ k ∧ susB S ce k = false then 10 else if s.u < now + c.h3 - max again 0 then 9 else 0) := rfl
        generalize propK l.length c.h3 ce now again (susB S ce) k s = K at *
        generalize hPT : propsTo l.length c.h3 ce now again (susB S ce) l k = PT at *
        generalize succK (susB S ce) l.length k = R at *
        generalize susB S ce k = sk at *
        have hsz1 : w1.heap.size ≤ wr.heap.size := HI.out.2.size
        clear hs hPT hX
        go_upto_region 8 with fail
        have hg1 := Blk.made wr 72 #[.int .i64 s.h, .int .i64 s.e, .int .i64 s.u, .int .i64 (gv s.r)]
        have hs1 : Same wr (wr.alloc (.cells #[.int .i64 s.h, .int .i64 s.e, .int .i64 s.u, .int .i64 (gv s.r)] 72)) := (Keep.refl _ _).alloc _
        clear p0 p1 p2 p3 x15 c0
        generalize (wr.alloc (.cells #[.int .i64 s.h, .int .i64 s.e, .int .i64 s.u, .int .i64 (gv s.r)] 72)) = wa at *
        have HG1 := hid (fun W (hk : Same wa W) => hg1.keep hk (fun f => f))
        have HS1 := hid hs1
        have y1 : wa.cell? ⟨wr.heap.size, 1, none⟩ = some (.int .i64 s.e) := hg1.at_ 1
        clear hg1 hs1
        go_upto_region 9 with (refine wpList_store_row rfl _ (.tmp 14) (.tmp 49) rfl wa.heap.size (cmdV 0 k ce s.e).toArray rfl rfl _ _ (Blk.made wa 52 (cmdV 0 0 0 0).toArray) (by kernel_rfl) rfl (one_toArray (cmdV_one _ _ _ _)) ?_)
        have hn1 := newC_same wa 0 k ce s.e
        have hn2 := newC_blk wa 0 k ce s.e
        unfold newC at hn1 hn2
        rw [show (cmdV 0 0 0 0).toArray = #[.int .i64 0, .int .i64 0, .int .i64 0, .int .i64 0, .int .i64 0, .string ⟨#[]⟩, .slice none 0 0, .int .i64 0, .int .i64 0, .int .i64 0, .int .i64 0, .int .i64 0, .int .i64 0, .int .i64 0, .int .i64 0, .int .i64 0, .int .i64 0, .int .i64 0, .int .i64 0] from rfl] at hn1 hn2
        generalize ((wa.alloc (.cells #[.int .i64 0, .int .i64 0, .int .i64 0, .int .i64 0, .int .i64 0, .string ⟨#[]⟩, .slice none 0 0, .int .i64 0, .int .i64 0, .int .i64 0, .int .i64 0, .int .i64 0, .int .i64 0, .int .i64 0, .int .i64 0, .int .i64 0, .int .i64 0, .int .i64 0, .int .i64 0] 52)).setRow wa.heap.size (cmdV 0 k ce s.e).toArray) = wb at *
        have HN1 := hid hn1
        have HN2 := hid hn2
        have HKb := hid ((HI.out.2.then HS1.out).then hn1)
        have HOb := hid ((HI.out.1.keep HS1.out (fun _ _ _ f => f)).keep hn1 (fun _ _ _ f => f))
        have hlwa : wr.heap.size < wa.heap.size := (HG1.out wa (Keep.refl _ _)).lt
        have y0 : wb.cell? ⟨wr.heap.size, 0, none⟩ = some (.int .i64 s.h) := (HG1.out wb hn1).at_ 0
        have y2 : wb.cell? ⟨wr.heap.size, 2, none⟩ = some (.int .i64 s.u) := (HG1.out wb hn1).at_ 2
        have y3 : wb.cell? ⟨wr.heap.size, 3, none⟩ = some (.int .i64 (gv s.r)) := (HG1.out wb hn1).at_ 3
        have x8 : wb.cell? ⟨w.heap.size, 8, none⟩ = some (.int .i64 c.h3) := HX8.out wb HKb.out
        have k0 : wb.cell? ⟨wa.heap.size, 0, none⟩ = some (.int .i64 0) := hn2.at_ 0
        have f0 := hn2.free 0
        have lk0 := hn2.lt
        have HSUb := hid (HSUk.out wb HKb.out)
        have HNEb := hid (HNEk.out wb HKb.out)
        have HBb := hid (HB.out wb HKb.out)
        clear hn1 hn2 y1
        by_cases g1 : s.u < now
        · rw [if_pos g1] at hpK
          by_cases g2 : ce = R
          · rw [if_pos g2] at hpK
            have hd1 : decide (ce = R) = true := by simp [g2]
            rw [hd1] at HNEb
            clear g2 hd1
            subst hpK
            go_wp2_with (refine wpList_load_row rfl _ (.tmp 5) rfl w.heap.size rfl _ (map16 c X l.length cx).toArray (0, 0) _ HBb.out Try.underlying36 rfl (by kernel_rfl) ?_)
            (with_reducible refine HNEb.out.mono ?_)
            rintro e w4 ⟨rfl, hk4⟩
            have HK4 := hid hk4
            have k0 : w4.cell? ⟨wa.heap.size, 0, none⟩ = some (.int .i64 0) := (HN2.out.keep hk4 (fun f => f)).at_ 0
            have f0 := (HN2.out.keep hk4 (fun f => f)).free 0
            have lk4 := (HN2.out.keep hk4 (fun f => f)).lt
            clear hk4
            go_upto_region 17 with fail
            have hb5 := (HN2.out.keep HK4.out (fun f => f)).put 0 (.int .i64 8)
            have hb6 : Blk (w4.setCell ⟨wa.heap.size, 0, none⟩ (.int .i64 8)) wa.heap.size 52 (cmdV 8 k ce s.e).toArray := hb5
            have HB6 := hid hb6
            have hk6 : Keep (fun i => i = wa.heap.size) w4 (w4.setCell ⟨wa.heap.size, 0, none⟩ (.int .i64 8)) := (Keep.refl _ _).put 0 _
            have HK6 := hid hk6
            clear hb5 hb6 hk6
            generalize w4.setCell ⟨wa.heap.size, 0, none⟩ (.int .i64 8) = w6 at *
            have z0 : w6.cell? ⟨wa.heap.size, 0, none⟩ = some (.int .i64 8) := HB6.out.at_ 0
            have HSC2 := hid (HSC.out.trans (by rw [HNZ.out (by decide)]))
            have HO6 := hid ((HOb.out.keep HK4.out (fun _ _ _ f => f)).keepB HK6.out (fun g hg => by have h1 := HI.out.1.lt g hg; omega))
            have hz6 : w1.heap.size ≤ w6.heap.size := by have h1 := HKb.out.size; have h2 := HK6.out.size; have h3 := (HK4.out).size; omega
            go_wp2_with (first
              | (refine wpList_load_row rfl _ (.tmp 14) rfl wa.heap.size rfl _ #[.int .i64 8, .int .i64 0, .int .i64 0, .int .i64 0, .int .i64 0, .string ⟨#[]⟩, .slice none 0 0, .int .i64 k, .int .i64 ce, .int .i64 s.e, .int .i64 0, .int .i64 0, .int .i64 0, .int .i64 0, .int .i64 0, .int .i64 0, .int .i64 0, .int .i64 0, .int .i64 0] (0, 0) _ HB6.out Try.underlying52 rfl (by kernel_rfl) ?_)
              | (at_builtin
                 refine ECm.law (.tmp 99) (.tmp 101) (.slice B PT.length cd) (some ⟨w6.heap.size, 0, none⟩) 1 1 rfl rfl rfl rfl w1.heap.size PT.length _ (cmdV 8 k ce s.e) (HO6.out.keep ((Keep.refl (fun _ => False) w6).alloc _) (fun _ _ _ f => f)) rfl
                   (fun _ => ⟨_, rfl, src_new rfl⟩) (cmdV_one _ _ _ _) (by omega) (by unfold maxLen; omega) (by simp; omega) ?_
                 intro A' c' w7 hown hg
                 have HOW := hid hown
                 have HG := hid hg
                 clear hown hg))
            go_roundw
            case rel =>
              refine ⟨k + 1, A', c', by omega, by go_num, by rw [HSC2.out]; simp, hid ?_⟩
              rw [HSC2.out, cmds_snoc]
              refine ⟨by simpa using HOW.out, ?_⟩
              have h1 := HI.out.2.size
              exact (((HKb.out.then HK4.out).trans HK6.out (fun i hi e => by have e2 : i = wa.heap.size := e; omega)).alloc _).grown HG.out (fun g e hl => by have := HI.out.1.block g e; omega)
            case measure => simp [intOf]; omega
          · rw [if_neg g2] at hpK
            have hd1 : decide (ce = R) = false := by simp [g2]
            rw [hd1] at HNEb
            clear g2 hd1
            subst hpK
            have HSC2 := hid (HSC.out.trans (by rw [HZ.out rfl, List.append_nil]))
            go_wp2_with (refine wpList_load_row rfl _ (.tmp 5) rfl w.heap.size rfl _ (map16 c X l.length cx).toArray (0, 0) _ HBb.out Try.underlying36 rfl (by kernel_rfl) ?_)
            (with_reducible refine HNEb.out.mono ?_)
            rintro e w4 ⟨rfl, hk4⟩
            have HK4 := hid hk4
            have k4 : w4.cell? ⟨wa.heap.size, 0, none⟩ = some (.int .i64 0) := (HN2.out.keep hk4 (fun f => f)).at_ 0
            clear hk4
            go_wp2_with fail
            go_roundw
            case rel => exact ⟨k + 1, B, cd, by omega, by go_num, by rw [HSC2.out], hid (by rw [HSC2.out]; exact ⟨HOb.out.keep HK4.out (fun _ _ _ f => f), HKb.out.then HK4.out⟩)⟩
            case measure => simp [intOf]; omega
        · rw [if_neg g1] at hpK
          by_cases g2 : ce = s.h
          rotate_left 1
          · rw [if_pos (.inl g2)] at hpK
            have g3 : (s.h != ce) = true := by simp; exact fun e => g2 e.symm
            clear g2
            subst hpK
            have HSC2 := hid (HSC.out.trans (by rw [HZ.out rfl, List.append_nil]))
            go_wp2_with fail
            go_roundw
            case rel => exact ⟨k + 1, B, cd, by omega, by go_num, by rw [HSC2.out], hid (by rw [HSC2.out]; exact ⟨HOb.out, HKb.out⟩)⟩
            case measure => simp [intOf]; omega
          · have g3 : (s.h != ce) = false := by simp [g2]
            cases hr : s.r
            rotate_left 1
            · rw [if_pos (.inr hr)] at hpK
              rw [hr] at y3
              have y3' : wb.cell? ⟨wr.heap.size, 3, none⟩ = some (.int .i64 1) := y3
              clear g2 hr y3
              subst hpK
              have HSC2 := hid (HSC.out.trans (by rw [HZ.out rfl, List.append_nil]))
              go_wp2_with fail
              go_roundw
              case rel => exact ⟨k + 1, B, cd, by omega, by go_num, by rw [HSC2.out], hid (by rw [HSC2.out]; exact ⟨HOb.out, HKb.out⟩)⟩
              case measure => simp [intOf]; omega
            · rw [if_neg (by rintro (h | h); exact h g2; rw [hr] at h; cases h)] at hpK
              rw [hr] at y3
              have y3' : wb.cell? ⟨wr.heap.size, 3, none⟩ = some (.int .i64 0) := y3
              clear g2 hr y3
              by_cases g4 : ce ≠ (k : Int) ∧ sk = false
              · rw [if_pos g4] at hpK
                obtain ⟨g4, rfl⟩ := g4
                have g5 : ((k : Int) != ce) = true := by simp; exact fun e => g4 e.symm
                clear g4
                subst hpK
                go_upto_region 17 with (go_at_call 38; (with_reducible refine HSUb.out.mono ?_); rintro e w5 ⟨rfl, rfl⟩)
                have hb5 := HN2.out.put 0 (.int .i64 10)
                have hb6 : Blk (wb.setCell ⟨wa.heap.size, 0, none⟩ (.int .i64 10)) wa.heap.size 52 (cmdV 10 k ce s.e).toArray := hb5
                have HB6 := hid hb6
                have hk6 : Keep (fun i => i = wa.heap.size) wb (wb.setCell ⟨wa.heap.size, 0, none⟩ (.int .i64 10)) := (Keep.refl _ _).put 0 _
                have HK6 := hid hk6
                clear hb5 hb6 hk6
                generalize wb.setCell ⟨wa.heap.size, 0, none⟩ (.int .i64 10) = w6 at *
                have z0 : w6.cell? ⟨wa.heap.size, 0, none⟩ = some (.int .i64 10) := HB6.out.at_ 0
                have HSC2 := hid (HSC.out.trans (by rw [HNZ.out (by decide)]))
                have HO6 := hid ((HOb.out).keepB HK6.out (fun g hg => by have h1 := HI.out.1.lt g hg; omega))
                have hz6 : w1.heap.size ≤ w6.heap.size := by have h1 := HKb.out.size; have h2 := HK6.out.size; have h3 := ((Keep.refl (fun _ => False) wb)).size; omega
                go_wp2_with (first
                  | (refine wpList_load_row rfl _ (.tmp 14) rfl wa.heap.size rfl _ #[.int .i64 10, .int .i64 0, .int .i64 0, .int .i64 0, .int .i64 0, .string ⟨#[]⟩, .slice none 0 0, .int .i64 k, .int .i64 ce, .int .i64 s.e, .int .i64 0, .int .i64 0, .int .i64 0, .int .i64 0, .int .i64 0, .int .i64 0, .int .i64 0, .int .i64 0, .int .i64 0] (0, 0) _ HB6.out Try.underlying52 rfl (by kernel_rfl) ?_)
                  | (at_builtin
                     refine ECm.law (.tmp 99) (.tmp 101) (.slice B PT.length cd) (some ⟨w6.heap.size, 0, none⟩) 1 1 rfl rfl rfl rfl w1.heap.size PT.length _ (cmdV 10 k ce s.e) (HO6.out.keep ((Keep.refl (fun _ => False) w6).alloc _) (fun _ _ _ f => f)) rfl
                       (fun _ => ⟨_, rfl, src_new rfl⟩) (cmdV_one _ _ _ _) (by omega) (by unfold maxLen; omega) (by simp; omega) ?_
                     intro A' c' w7 hown hg
                     have HOW := hid hown
                     have HG := hid hg
                     clear hown hg))
                go_roundw
                case rel =>
                  refine ⟨k + 1, A', c', by omega, by go_num, by rw [HSC2.out]; simp, hid ?_⟩
                  rw [HSC2.out, cmds_snoc]
                  refine ⟨by simpa using HOW.out, ?_⟩
                  have h1 := HI.out.2.size
                  exact (((HKb.out.then (Keep.refl (fun _ => False) wb)).trans HK6.out (fun i hi e => by have e2 : i = wa.heap.size := e; omega)).alloc _).grown HG.out (fun g e hl => by have := HI.out.1.block g e; omega)
                case measure => simp [intOf]; omega
              · rw [if_neg g4] at hpK
                have g5 : ((k : Int) != ce) = false ∨ (sk = true ∧ ((k : Int) != ce) = true) := by
                  by_cases h : ce = k
                  · exact .inl (by simp [h])
                  · refine .inr ⟨?_, by simp; exact fun e => h e.symm⟩
                    cases sk
                    · exact absurd ⟨h, rfl⟩ g4
                    · rfl
                clear g4
                by_cases g6 : s.u < now + c.h3 - max again 0
                · rw [if_pos g6] at hpK
                  subst hpK
                  by_cases g8 : 0 ≤ again
                  all_goals
                    (first | rw [show max again 0 = again by omega] at g6 | rw [show max again 0 = 0 by omega] at g6)
                    rcases g5 with g5 | ⟨rfl, g5⟩
                    all_goals
                      go_upto_region 17 with (go_at_call 38; (with_reducible refine HSUb.out.mono ?_); rintro e w5 ⟨rfl, rfl⟩)
                      have hb5 := HN2.out.put 0 (.int .i64 9)
                      have hb6 : Blk (wb.setCell ⟨wa.heap.size, 0, none⟩ (.int .i64 9)) wa.heap.size 52 (cmdV 9 k ce s.e).toArray := hb5
                      have HB6 := hid hb6
                      have hk6 : Keep (fun i => i = wa.heap.size) wb (wb.setCell ⟨wa.heap.size, 0, none⟩ (.int .i64 9)) := (Keep.refl _ _).put 0 _
                      have HK6 := hid hk6
                      clear hb5 hb6 hk6
                      generalize wb.setCell ⟨wa.heap.size, 0, none⟩ (.int .i64 9) = w6 at *
                      have z0 : w6.cell? ⟨wa.heap.size, 0, none⟩ = some (.int .i64 9) := HB6.out.at_ 0
                      have HSC2 := hid (HSC.out.trans (by rw [HNZ.out (by decide)]))
                      have HO6 := hid ((HOb.out).keepB HK6.out (fun g hg => by have h1 := HI.out.1.lt g hg; omega))
                      have hz6 : w1.heap.size ≤ w6.heap.size := by have h1 := HKb.out.size; have h2 := HK6.out.size; have h3 := ((Keep.refl (fun _ => False) wb)).size; omega
                      go_wp2_with (first
                        | (refine wpList_load_row rfl _ (.tmp 14) rfl wa.heap.size rfl _ #[.int .i64 9, .int .i64 0, .int .i64 0, .int .i64 0, .int .i64 0, .string ⟨#[]⟩, .slice none 0 0, .int .i64 k, .int .i64 ce, .int .i64 s.e, .int .i64 0, .int .i64 0, .int .i64 0, .int .i64 0, .int .i64 0, .int .i64 0, .int .i64 0, .int .i64 0, .int .i64 0] (0, 0) _ HB6.out Try.underlying52 rfl (by kernel_rfl) ?_)
                        | (at_builtin
                           refine ECm.law (.tmp 99) (.tmp 101) (.slice B PT.length cd) (some ⟨w6.heap.size, 0, none⟩) 1 1 rfl rfl rfl rfl w1.heap.size PT.length _ (cmdV 9 k ce s.e) (HO6.out.keep ((Keep.refl (fun _ => False) w6).alloc _) (fun _ _ _ f => f)) rfl
                             (fun _ => ⟨_, rfl, src_new rfl⟩) (cmdV_one _ _ _ _) (by omega) (by unfold maxLen; omega) (by simp; omega) ?_
                           intro A' c' w7 hown hg
                           have HOW := hid hown
                           have HG := hid hg
                           clear hown hg))
                      go_roundw
                      case rel =>
                        refine ⟨k + 1, A', c', by omega, by go_num, by rw [HSC2.out]; simp, hid ?_⟩
                        rw [HSC2.out, cmds_snoc]
                        refine ⟨by simpa using HOW.out, ?_⟩
                        have h1 := HI.out.2.size
                        exact (((HKb.out.then (Keep.refl (fun _ => False) wb)).trans HK6.out (fun i hi e => by have e2 : i = wa.heap.size := e; omega)).alloc _).grown HG.out (fun g e hl => by have := HI.out.1.block g e; omega)
                      case measure => simp [intOf]; omega
                · rw [if_neg g6] at hpK
                  subst hpK
                  have HSC2 := hid (HSC.out.trans (by rw [HZ.out rfl, List.append_nil]))
                  by_cases g8 : 0 ≤ again
                  all_goals
                    (first | rw [show max again 0 = again by omega] at g6 | rw [show max again 0 = 0 by omega] at g6)
                    rcases g5 with g5 | ⟨rfl, g5⟩
                    all_goals
                      go_wp2_with (go_at_call 38; (with_reducible refine HSUb.out.mono ?_); rintro e w5 ⟨rfl, rfl⟩)
                      go_roundw
                      case rel => exact ⟨k + 1, B, cd, by omega, by go_num, by rw [HSC2.out], hid (by rw [HSC2.out]; exact ⟨HOb.out, HKb.out⟩)⟩
                      case measure => simp [intOf]; omega
      · have hk1 : (l.length : Int) ≤ (k : Int) := by omega
        obtain rfl : k = l.length := by omega
        go_wp2_with fail
        go_ret
        exact ⟨B, cd, rfl, HI.out.1.sl (fun g hg => by have h2 := HW.out.size; omega), HW.out.then HI.out.2⟩
end Go.Proofs.Ytmkcphhgimlkgaa

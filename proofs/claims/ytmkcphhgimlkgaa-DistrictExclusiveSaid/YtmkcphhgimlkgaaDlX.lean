import Derived.Test.YtmkcphhgimlkgaaDiK
import Derived.Test.YtmkcphhgimlkgaaDpX
import Derived.Deep.CutRange
import Derived.Deep.RegionHeld3
namespace Go.Proofs.Ytmkcphhgimlkgaa
open Go.RowKit

theorem take_flat (r : Nat) : ∀ l : List AK, akcells (l.take r) = (akcells l).take (r * 5) := by
  induction r with
  | zero => intro l; simp [akcells]
  | succ r ih =>
    intro l
    cases l with
    | nil => simp [akcells]
    | cons a l =>
      have h1 := ih l
      simp only [akcells, List.take_succ_cons, List.flatMap_cons] at h1 ⊢
      rw [h1, Nat.succ_mul, List.take_append, List.take_of_length_le (show a.cells.length ≤ r * 5 + 5 from by show 5 ≤ r * 5 + 5; omega)]
      congr 2
/-- a map of districts without the list of its nodes -/
structure DA (w : World) (mb tb sb : Nat) (A : Option Addr) (cp : Nat) (c : CF) (l : List St) : Prop where
  top : Blk w mb 91 #[.int .i64 c.cen, .slice A c.dis.length cp, .int .i64 c.h3, .pointer (some ⟨tb, 0, none⟩)]
  tab : IsTable w tb sb l
  ok : OkL c.cen c.h3 l
theorem DM.da {w : World} {mb tb sb : Nat} {A : Option Addr} {cp : Nat} {c : CF} {l : List St} (h : DM w mb tb sb A cp c l) : DA w mb tb sb A cp c l := ⟨h.top, h.tab, h.ok⟩
theorem DA.keep {w w' : World} {S : Nat → Prop} {mb tb sb : Nat} {A : Option Addr} {cp : Nat} {c : CF} {l : List St} (h : DA w mb tb sb A cp c l) (hk : Keep S w w') (h1 : ¬ S mb) (h2 : ¬ S tb) (h3 : ¬ S sb) : DA w' mb tb sb A cp c l :=
  ⟨h.top.keep hk h1, h.tab.keep hk h2 h3, h.ok⟩
theorem DA.same {w w' : World} {mb tb sb : Nat} {A : Option Addr} {cp : Nat} {c : CF} {l : List St} (h : DA w mb tb sb A cp c l) (hk : Same w w') : DA w' mb tb sb A cp c l := h.keep hk (fun f => f) (fun f => f) (fun f => f)
set_option maxRecDepth 100000 in
set_option maxHeartbeats 4000000 in
theorem active_da (w : World) (mb tb sb : Nat) (A : Option Addr) (cp : Nat) (c : CF) (l : List St) (hD : DA w mb tb sb A cp c l) (ce now : Int) : Calls Try.prog 16 #[.pointer (some ⟨mb, 0, none⟩), .int .i64 ce, .int .i64 now] w (LsPost w (pick (actB ce now) l l.length)) := by
  have h9 := hD.ok.hi
  have hlen := hD.ok.len
  have t0 : w.cell? ⟨mb, 0, none⟩ = some (.int .i64 c.cen) := hD.top.at_ 0
  rw [← hlen] at t0 h9
  have HLA := hid (fun W (hk : Same w W) d => last_any W tb sb l (hD.same hk).tab d)
  have HT3 := hid (fun W (hk : Same w W) => (hD.same hk).top.at_ 3)
  clear hD hlen
  go_enter Try.func16, Try.ntmps16
  go_wp2_with fail
  clear t0
  go_loopw [7, 16] (fun v i wr => ∃ (k : Nat) (B : Option Addr) (d : Nat), k ≤ l.length ∧ i = .int .i64 k ∧ v = .slice B (pick (actB ce now) l k).length d ∧ Hid (Own wr w.heap.size 3 1 (.slice B (pick (actB ce now) l k).length d) (pick (actB ce now) l k).length (icellsC (pick (actB ce now) l k)) ∧ Same w wr)) (fun _ i _ => l.length - (intOf i).toNat)
  case atStart => exact ⟨0, none, 0, by omega, rfl, rfl, hid ⟨Own.nil _ _ _ _, Keep.refl _ _⟩⟩
  case round =>
    obtain ⟨k, B, d, hk, rfl, rfl, HI⟩ := hrel
    by_cases hlt : k < l.length
    · obtain ⟨s, hs⟩ := get_some hlt
      have hk1 : (k : Int) < (l.length : Int) := by omega
      have hple := pick_le (p := actB ce now) (l := l) k
      have HY := hid (pick_yes (p := actB ce now) hs)
      have HN := hid (pick_no (p := actB ce now) hs)
      have hL1 := HLA.out wr HI.out.2 k
      rw [last_at hs] at hL1
      have HL1 := hid hL1
      have t3 : wr.cell? ⟨mb, 3, none⟩ = some (.pointer (some ⟨tb, 0, none⟩)) := HT3.out wr HI.out.2
      have hab : actB ce now s = (decide (s.h = ce) && (decide (0 ≤ now) && decide (now ≤ s.u))) := rfl
      generalize hPT : pick (actB ce now) l k = PT at *
      generalize actB ce now s = ab at *
      clear hs hPT hL1
      by_cases g1 : s.h = ce
      · have g1' : (s.h == ce) = true := by simp [g1]
        have HAB : Hid (ab = (decide (0 ≤ now) && decide (now ≤ s.u))) := hid (by rw [hab]; simp [g1])
        clear g1 hab
        generalize hvb : (decide (0 ≤ now) && decide (now ≤ s.u)) = vb at *
        have HV := hid (fun W => by have := valid_any s.u now W; rw [hvb] at this; exact this : ∀ W, Calls Try.prog 39 #[.int .i64 s.u, .int .i64 now] W fun e w' => e = .returned (.bool vb) ∧ W = w')
        clear hvb
        go_wp2_with fail
        (with_reducible refine HL1.out.mono ?_)
        rintro e w2 ⟨rfl, hk2⟩
        have HK2 := hid (HI.out.2.then hk2)
        have HO2 := hid (HI.out.1.keep hk2 (fun _ _ _ f => f))
        have hsz1 : w.heap.size ≤ w2.heap.size := HK2.out.size
        clear hk2 t3
        cases vb
        · have HN2 := hid (HN.out HAB.out)
          go_wp2_with (go_at_call 39; (with_reducible refine (HV.out _).mono ?_); rintro e w3 ⟨rfl, rfl⟩)
          go_roundw
          case rel => exact ⟨k + 1, B, d, by omega, by go_num, by rw [HN2.out], hid (by rw [HN2.out]; exact ⟨HO2.out, HK2.out⟩)⟩
          case measure => simp [intOf]; omega
        · have HN2 := hid (HY.out HAB.out)
          go_wp2_with (first
            | (go_at_call 39; (with_reducible refine (HV.out _).mono ?_); rintro e w3 ⟨rfl, rfl⟩)
            | (at_builtin
               refine E24.law (.tmp 37) (.tmp 39) (.slice B PT.length d) (some ⟨w2.heap.size, 0, none⟩) 1 1 rfl rfl rfl rfl w.heap.size PT.length _ [.int .i64 k] (HO2.out.keep ((Keep.refl (fun _ => False) w2).alloc _) (fun _ _ _ f => f)) rfl
                 (fun _ => ⟨_, rfl, src_new rfl⟩) (by intro u hu; simp at hu; subst hu; rfl) (by omega) (by unfold maxLen; omega) (by simp; omega) ?_
               intro A' c' w4 hown hg
               have HOW := hid hown
               have HG := hid hg
               clear hown hg))
          go_roundw
          case rel =>
            refine ⟨k + 1, A', c', by omega, by go_num, by rw [HN2.out]; simp, hid ?_⟩
            rw [HN2.out, icells_snoc]
            refine ⟨by simpa using HOW.out, (HK2.out.alloc _).grown HG.out (fun g e hl => by have := HO2.out.block g e; omega)⟩
          case measure => simp [intOf]; omega
      · have g1' : (s.h == ce) = false := by simp [g1]
        have HN2 := hid (HN.out (by rw [hab]; simp [g1]))
        clear g1 hab
        go_wp2_with fail
        (with_reducible refine HL1.out.mono ?_)
        rintro e w2 ⟨rfl, hk2⟩
        have HK2 := hid (HI.out.2.then hk2)
        have HO2 := hid (HI.out.1.keep hk2 (fun _ _ _ f => f))
        clear hk2 t3
        go_wp2_with fail
        go_roundw
        case rel => exact ⟨k + 1, B, d, by omega, by go_num, by rw [HN2.out], hid (by rw [HN2.out]; exact ⟨HO2.out, HK2.out⟩)⟩
        case measure => simp [intOf]; omega
    · obtain rfl : k = l.length := by omega
      go_wp2_with fail
      go_ret
      exact ⟨B, d, rfl, HI.out.1.sl (fun g hg => by omega), HI.out.2⟩
/-- what played leaves, in one form -/
def PlayQ (w : World) (c : CF) (acts : List AK) (e : Ending) (w' : World) : Prop :=
  ∃ (mv : Option Addr) (x : List Value), x.length = 16 ∧ (∀ u ∈ x, u.oneCell' = true) ∧ e = .returned (.tuple #[.pointer mv, .agg x.toArray, .bool true]) ∧ Same w w' ∧
    (mv = none ∨ ∃ mb tb sb A cp, mv = some ⟨mb, 0, none⟩ ∧ DA w' mb tb sb A cp c (runD c acts (initL c.cen.toNat c.h3)) ∧ w.heap.size ≤ mb ∧ w.heap.size ≤ tb ∧ w.heap.size ≤ sb)
theorem play_q {w w' : World} {c : CF} {acts : List AK} {e : Ending} (h : PlayPost w c acts e w') : PlayQ w c acts e w' := by
  rcases h with ⟨rfl, hk⟩ | ⟨hv, _, _, mb, tb, sb, A, cp, X, cx, rfl, hP, hk⟩
  · exact ⟨none, zero16, rfl, zero16_one, rfl, hk, .inl rfl⟩
  · exact ⟨some ⟨mb, 0, none⟩, map16 c X _ cx, rfl, map16_one _ _ _ _, rfl, hk, .inr ⟨mb, tb, sb, A, cp, rfl, hP.dm.da, hP.mb, hP.tb, hP.sb⟩⟩
theorem DA.far2 {w w' : World} {mb tb sb g : Nat} {A : Option Addr} {cp : Nat} {c : CF} {l : List St} {a b : Option Addr} (h : DA w mb tb sb A cp c l) (hb : Blk w g 61 #[.pointer a, .pointer b]) (hk : Keep (· = g) w w') : DA w' mb tb sb A cp c l := by
  have h0 := hb
  have h1 := h.top
  have h2 := h.tab.row
  have h3 := h.tab.top
  rw [Blk] at h0 h1 h2 h3
  have n1 : ¬ mb = g := by
    rintro rfl; rw [h0] at h1; injection h1 with h1; injection h1 with _ h1; exact absurd h1 (by decide)
  have n2 : ¬ sb = g := by
    rintro rfl; rw [h0] at h2; injection h2 with h2; injection h2 with _ h2; exact absurd h2 (by decide)
  have n3 : ¬ tb = g := by
    rintro rfl; rw [h0] at h3; injection h3 with h3; injection h3 with _ h3; exact absurd h3 (by decide)
  exact h.keep hk n1 n3 n2
def GX (c : CF) (acts : List AK) (r : Nat) (W : World) (v : Option Addr) : Prop :=
  ∃ mb tb sb A cp, v = some ⟨mb, 0, none⟩ ∧ DA W mb tb sb A cp c (runD c (acts.take r) (initL c.cen.toNat c.h3))
theorem GX.same {c : CF} {acts : List AK} {r : Nat} {W W' : World} {v : Option Addr} (h : GX c acts r W v) (hk : Same W W') : GX c acts r W' v := by
  obtain ⟨mb, tb, sb, A, cp, h1, h2⟩ := h
  exact ⟨mb, tb, sb, A, cp, h1, h2.same hk⟩
theorem GX.far {c : CF} {acts : List AK} {r g : Nat} {W W' : World} {v a b : Option Addr} (h : GX c acts r W v) (hb : Blk W g 61 #[.pointer a, .pointer b]) (hk : Keep (· = g) W W') : GX c acts r W' v := by
  obtain ⟨mb, tb, sb, A, cp, h1, h2⟩ := h
  exact ⟨mb, tb, sb, A, cp, h1, h2.far2 hb hk⟩
abbrev CutX (c : CF) (acts : List AK) (wr : World) (r : Nat) (u12 u14 : Value) (w' : World) : Prop :=
  ∃ mv : Option Addr, u12 = .pointer mv ∧ u14 = .bool true ∧ Hid (Same wr w' ∧ (mv = none ∨ GX c acts r w' mv))
set_option maxRecDepth 100000 in
set_option maxHeartbeats 16000000 in
theorem excl_walk (w : World) (c : CF) (hm : CM w c) (hf : Few c) (Z : Option Addr) (cz : Nat) (acts : List AK) (hz : Sl w (fun _ => False) 5 Z acts.length (akcells acts)) (hzn : acts.length ≤ cz) (hzc : cz ≤ maxLen) (hal0 : acts.length ≤ 140737488355328) (x0 x1 : Int) (h00 : 0 ≤ x0) (h01 : x0 ≤ 255) (h10 : 0 ≤ x1) (h11 : x1 ≤ 255) (now : Int) :
    Calls Try.prog 7 #[.agg (map16 c Z acts.length cz).toArray, .agg #[.int .u8 x0, .int .u8 x1], .int .i64 now] w fun e w' => e = .returned (.bool true) ∧ Same w w' := by
  have hb0 := (Blk.made w 30 (map16 c Z acts.length cz).toArray).alloc (.cells #[.int .u8 x0, .int .u8 x1] 58)
  have hq0 := Blk.made (w.alloc (.cells (map16 c Z acts.length cz).toArray 30)) 58 #[.int .u8 x0, .int .u8 x1]
  rw [World.size_alloc] at hq0
  have hw0 : Same w ((w.alloc (.cells (map16 c Z acts.length cz).toArray 30)).alloc (.cells #[.int .u8 x0, .int .u8 x1] 58)) := ((Keep.refl _ _).alloc _).alloc _
  generalize hw1 : ((w.alloc (.cells (map16 c Z acts.length cz).toArray 30)).alloc (.cells #[.int .u8 x0, .int .u8 x1] 58)) = w1 at *
  have HBC := hid (fun W (hk : Same w1 W) => boxc (hb0.keep (S := fun _ => False) hk (fun f => f)))
  have HQB := hid (fun W (hk : Same w1 W) => hq0.keep (S := fun _ => False) hk (fun f => f))
  have HW := hid hw0
  have HPL := hid (fun W (hk : Same w1 W) r (hr : r ≤ acts.length) => (played_any W c ((hm.same hw0).same hk) hf Z cz (acts.take r) (by
    have h1 := ((hz.same hw0).same hk).take r hr
    have h2 : (acts.take r).length = r := by rw [List.length_take]; omega
    rw [h2]
    rw [show akcells (acts.take r) = (akcells acts).take (r * 5) from take_flat r acts]
    exact h1) (by rw [List.length_take]; omega)).mono (fun e w' h => play_q h))
  have HAC := hid (fun W (hk : Same w1 W) => (hz.same hw0).same hk)
  have HAW := hid awake_any
  have HCZ := hid hzc
  have HZN := hid hzn
  have c15 : w1.cell? ⟨w.heap.size, 15, none⟩ = some (.slice Z acts.length cz) := (boxc hb0).c15
  have hal : (acts.length : Int) ≤ 4611686018427387904 := by omega
  clear hb0 hq0 hw0 hm hf hz hzn hzc
  go_enter Try.func7, Try.ntmps7
  go_upto_region 1 with fail
  try rw [hw1]
  go_wp2_with fail
  go_loopw [7, 24] (fun v i wr => ∃ (k : Nat) (la : Int), k ≤ acts.length ∧ i = .int .i64 k ∧ v = .int .i64 la ∧ Hid ((∀ a ∈ acts.take k, a.now ≤ now) ∧ Same w1 wr)) (fun _ i _ => acts.length - (RowKit.intOf i).toNat)
  case atStart => exact ⟨0, 0, by omega, rfl, rfl, hid ⟨by simp, Keep.refl _ _⟩⟩
  case round =>
    obtain ⟨k, la, hk, rfl, rfl, HI⟩ := hrel
    by_cases hlt : k < acts.length
    · obtain ⟨a, ha⟩ := get_some hlt
      have hk1 : (k : Int) < (acts.length : Int) := by omega
      obtain ⟨b1, o1, rfl, hb1, p0, p1, p2, p3, p4⟩ := ak_at (HAC.out wr HI.out.2) ha
      have HALL := hid (fun (h : a.now ≤ now) => (show ∀ b ∈ acts.take (k + 1), b.now ≤ now from by
        rw [take_snoc ha]
        intro b hb
        rcases List.mem_append.1 hb with hb | hb
        · exact HI.out.1 b hb
        · simp at hb; subst hb; exact h))
      clear ha c15
      by_cases g1 : a.now < la ∨ (la ≤ a.now ∧ now < a.now)
      · rcases g1 with g1 | ⟨g1, g2⟩
        all_goals
          go_wp2_with fail
          (with_reducible refine (HAW.out _).mono ?_)
          rintro e w4 ⟨rfl, hk4⟩
          have HK4 := hid ((HI.out.2.alloc _).then hk4)
          clear hk4
          go_wp2_with fail
          go_ret
          exact ⟨rfl, HW.out.then HK4.out⟩
      · have g2 : la ≤ a.now := by omega
        have g3 : a.now ≤ now := by omega
        have HA2 := hid (HALL.out g3)
        clear g1
        go_wp2_with fail
        go_roundw
        case rel => exact ⟨k + 1, a.now, by omega, by go_num, rfl, hid ⟨HA2.out, HI.out.2.alloc _⟩⟩
        case measure => simp [RowKit.intOf]; omega
    · obtain rfl : k = acts.length := by omega
      have hI := HI.out
      rw [List.take_of_length_le (Nat.le_refl _)] at hI
      have HALL := hid hI.1
      have HK1 := hid hI.2
      obtain ⟨wx, hwx⟩ : ∃ x, x = wr := ⟨_, rfl⟩
      subst hwx
      clear hI c15 HI
      go_upto_region 10 with fail
      have hT0 := Blk.made wx 61 #[.pointer none, .pointer none]
      have hkT : Same wx (wx.alloc (.cells #[.pointer none, .pointer none] 61)) := (Keep.refl _ _).alloc _
      generalize (wx.alloc (.cells #[.pointer none, .pointer none] 61)) = wy at *
      have HT0 := hid hT0
      have HKY := hid (HK1.out.then hkT)
      have hgt : w1.heap.size ≤ wx.heap.size := HK1.out.size
      clear hT0 hkT
      obtain ⟨xs, hxs⟩ : ∃ xs : Nat → Int, xs = fun k => if k = 0 then x0 else x1 := ⟨_, rfl⟩
      have hx0 : xs 0 = x0 := by rw [hxs]; rfl
      have hx1 : xs 1 = x1 := by rw [hxs]; rfl
      obtain ⟨rr, hrr⟩ : ∃ rr : Nat → Nat, rr = fun k => (xs k).toNat % (acts.length + 1) := ⟨_, rfl⟩
      have HRR := hid hrr
      have HX0 := hid hx0
      have HX1' := hid hx1
      clear hxs hrr hx0 hx1
      go_wp2_with fail
      go_loopw [42] (fun i wr => ∃ (k : Nat) (v0 v1 : Option Addr), k ≤ 2 ∧ i = .int .i64 k ∧ Hid (Blk wr wx.heap.size 61 #[.pointer v0, .pointer v1] ∧ (1 ≤ k → GX c acts (rr 0) wr v0) ∧ (2 ≤ k → GX c acts (rr 1) wr v1) ∧ Same w1 wr)) (fun i _ => 2 - (RowKit.intOf i).toNat)
      case atStart => exact ⟨0, none, none, by omega, rfl, hid ⟨HT0.out, fun h => by omega, fun h => by omega, HKY.out⟩⟩
      case round =>
        obtain ⟨k, v0, v1, hk, rfl, HI⟩ := hrel
        by_cases hlt : k < 2
        · obtain ⟨xk, hxk⟩ : ∃ xk : Nat, xs k = (xk : Int) ∧ xk ≤ 255 := by
            rcases (show k = 0 ∨ k = 1 by omega) with rfl | rfl
            · exact ⟨x0.toNat, by rw [HX0.out]; omega, by omega⟩
            · exact ⟨x1.toNat, by rw [HX1'.out]; omega, by omega⟩
          obtain ⟨hxk, hxk2⟩ := hxk
          have hk2 : (k : Int) < 2 := by omega
          have HSX := hid (fun W (hk : Same w1 W) => (show W.cell? ⟨w.heap.size, 0, none⟩ = some (.int .i64 c.cen) ∧ W.cell? ⟨w.heap.size, 1, none⟩ = some (.slice c.D c.dis.length c.cD) ∧ W.cell? ⟨w.heap.size, 2, none⟩ = some (.slice c.E c.edg.length c.cE) ∧ W.cell? ⟨w.heap.size, 3, none⟩ = some (.slice c.U c.uni.length c.cU) ∧ W.cell? ⟨w.heap.size, 4, none⟩ = some (.slice c.P c.pla.length c.cP) ∧ W.cell? ⟨w.heap.size, 5, none⟩ = some (.int .i64 c.h0) ∧ W.cell? ⟨w.heap.size, 6, none⟩ = some (.int .i64 c.h1) ∧ W.cell? ⟨w.heap.size, 7, none⟩ = some (.int .i64 c.h2) ∧ W.cell? ⟨w.heap.size, 8, none⟩ = some (.int .i64 c.h3) ∧ W.cell? ⟨w.heap.size, 9, none⟩ = some (.int .i64 c.h4) ∧ W.cell? ⟨w.heap.size, 10, none⟩ = some (.int .i64 c.h5) ∧ W.cell? ⟨w.heap.size, 11, none⟩ = some (.int .i64 c.h6) ∧ W.cell? ⟨w.heap.size, 12, none⟩ = some (.int .i64 c.h7) ∧ W.cell? ⟨w.heap.size, 13, none⟩ = some (.int .i64 c.h8) ∧ W.cell? ⟨w.heap.size, 14, none⟩ = some (.int .i64 c.h9) ∧ W.cell? ⟨w.heap.size, 15, none⟩ = some (.slice Z acts.length cz) ∧ W.cell? ⟨w.heap.size + 1, k, none⟩ = some (.int .u8 (xk : Nat)) from by
            have h := HBC.out W hk
            refine ⟨h.c0, h.c1, h.c2, h.c3, h.c4, h.c5, h.c6, h.c7, h.c8, h.c9, h.c10, h.c11, h.c12, h.c13, h.c14, h.c15, ?_⟩
            have hq := HQB.out W hk
            rcases (show k = 0 ∨ k = 1 by omega) with rfl | rfl
            · rw [← hxk, HX0.out]; exact hq.at_ 0
            · rw [← hxk, HX1'.out]; exact hq.at_ 1))
          obtain ⟨r, hr⟩ : ∃ r, r = rr k := ⟨_, rfl⟩
          have hr2 : r = xk % (acts.length + 1) := by rw [hr, HRR.out]; simp only; rw [hxk]; rfl
          have hrn : r ≤ acts.length := by have := Nat.mod_lt xk (show 0 < acts.length + 1 by omega); omega
          have hmod : ((xk : Int) % ((acts.length : Int) + 1)) = (r : Int) := by rw [hr2, Int.natCast_emod]; simp
          have hrc : (r : Int) ≤ (cz : Int) := by have := HZN.out; omega
          have hrn2 : (r : Int) ≤ (acts.length : Int) := by omega
          have hcz2 : (cz : Int) ≤ 9223372036854775807 := by have := HCZ.out; unfold maxLen at this; omega
          have hpl := fun W hk => HPL.out W hk r hrn
          rw [show (acts.take r).length = r from by rw [List.length_take]; omega] at hpl
          simp only [map16] at hpl
          have HPLr := hid hpl
          have HR := hid hr
          have hwr1 := hid (IntWalk.i64_in ((acts.length : Int) + 1) (by omega))
          have hwr2 := hid (IntWalk.i64_in (xk : Int) (by omega))
          have hwr3 := hid (show ¬ ((acts.length : Int) + 1 = 0) by omega)
          have hwr4 := hid (show ((xk : Int).tmod ((acts.length : Int) + 1)) = (r : Int) from by rw [Int.tmod_eq_emod_of_nonneg (by omega)]; exact hmod)
          clear hpl hr hr2 hxk hxk2
          go_upto_region 13 with fail
          go_cut [12, 14] from 46 to 64 (fun u12 u14 w' => CutX c acts wr r u12 u14 w')
          case first =>
            refine wp_region_held_drew (S := (fun W => W.cell? ⟨w.heap.size, 0, none⟩ = some (.int .i64 c.cen) ∧ W.cell? ⟨w.heap.size, 1, none⟩ = some (.slice c.D c.dis.length c.cD) ∧ W.cell? ⟨w.heap.size, 2, none⟩ = some (.slice c.E c.edg.length c.cE) ∧ W.cell? ⟨w.heap.size, 3, none⟩ = some (.slice c.U c.uni.length c.cU) ∧ W.cell? ⟨w.heap.size, 4, none⟩ = some (.slice c.P c.pla.length c.cP) ∧ W.cell? ⟨w.heap.size, 5, none⟩ = some (.int .i64 c.h0) ∧ W.cell? ⟨w.heap.size, 6, none⟩ = some (.int .i64 c.h1) ∧ W.cell? ⟨w.heap.size, 7, none⟩ = some (.int .i64 c.h2) ∧ W.cell? ⟨w.heap.size, 8, none⟩ = some (.int .i64 c.h3) ∧ W.cell? ⟨w.heap.size, 9, none⟩ = some (.int .i64 c.h4) ∧ W.cell? ⟨w.heap.size, 10, none⟩ = some (.int .i64 c.h5) ∧ W.cell? ⟨w.heap.size, 11, none⟩ = some (.int .i64 c.h6) ∧ W.cell? ⟨w.heap.size, 12, none⟩ = some (.int .i64 c.h7) ∧ W.cell? ⟨w.heap.size, 13, none⟩ = some (.int .i64 c.h8) ∧ W.cell? ⟨w.heap.size, 14, none⟩ = some (.int .i64 c.h9) ∧ W.cell? ⟨w.heap.size, 15, none⟩ = some (.slice Z acts.length cz) ∧ W.cell? ⟨w.heap.size + 1, k, none⟩ = some (.int .u8 xk))) (by kernel_rfl) (HSX.out _ (HI.out.2.2.2.drew)) (fun hHeld => ?_)
            refine takeO (i := 0) (v := ?_) (by kernel_rfl) (by kernel_rfl) (by kernel_rfl) (fun c a d v w h => by cases d <;> exact h) (oi := ?_) ?_ ?_ (by assumption) ?_
            rotate_left 2
            · (simp only [List.getElem?_toArray, List.getElem?_cons_zero]; rfl)
            · (refine Or.inl ⟨by rfl, ?_⟩; intro w hSw; (try dsimp only at hSw); go_simp; try with_reducible rfl)
            try simp only [Act.put, List.setIfInBounds_toArray, List.set_cons_zero, List.set_cons_succ]
            refine takeO (i := 1) (v := ?_) (by kernel_rfl) (by kernel_rfl) (by kernel_rfl) (fun c a d v w h => by cases d <;> exact h) (oi := ?_) ?_ ?_ (by assumption) ?_
            rotate_left 2
            · (simp only [List.getElem?_toArray, List.getElem?_cons_succ, List.getElem?_cons_zero]; rfl)
            · (refine Or.inl ⟨by rfl, ?_⟩; intro w hSw; (try dsimp only at hSw); go_simp; try with_reducible rfl)
            try simp only [Act.put, List.setIfInBounds_toArray, List.set_cons_zero, List.set_cons_succ]
            refine takeO (i := 2) (v := ?_) (by kernel_rfl) (by kernel_rfl) (by kernel_rfl) (fun c a d v w h => by cases d <;> exact h) (oi := ?_) ?_ ?_ (by assumption) ?_
            rotate_left 2
            · (simp only [List.getElem?_toArray, List.getElem?_cons_succ, List.getElem?_cons_zero]; rfl)
            · (refine Or.inl ⟨by rfl, ?_⟩; intro w hSw; (try dsimp only at hSw); go_simp; try with_reducible rfl)
            try simp only [Act.put, List.setIfInBounds_toArray, List.set_cons_zero, List.set_cons_succ]
            refine takeO (i := 3) (v := ?_) (by kernel_rfl) (by kernel_rfl) (by kernel_rfl) (fun c a d v w h => by cases d <;> exact h) (oi := ?_) ?_ ?_ (by assumption) ?_
            rotate_left 2
            · (simp only [List.getElem?_toArray, List.getElem?_cons_succ, List.getElem?_cons_zero]; rfl)
            · (refine Or.inl ⟨by rfl, ?_⟩; intro w hSw; (try dsimp only at hSw); go_simp; try with_reducible rfl)
            try simp only [Act.put, List.setIfInBounds_toArray, List.set_cons_zero, List.set_cons_succ]
            refine takeO (i := 4) (v := ?_) (by kernel_rfl) (by kernel_rfl) (by kernel_rfl) (fun c a d v w h => by cases d <;> exact h) (oi := ?_) ?_ ?_ (by assumption) ?_
            rotate_left 2
            · (simp only [List.getElem?_toArray, List.getElem?_cons_succ, List.getElem?_cons_zero]; rfl)
            · (refine Or.inl ⟨by rfl, ?_⟩; intro w hSw; (try dsimp only at hSw); go_simp; try with_reducible rfl)
            try simp only [Act.put, List.setIfInBounds_toArray, List.set_cons_zero, List.set_cons_succ]
            refine takeO (i := 5) (v := ?_) (by kernel_rfl) (by kernel_rfl) (by kernel_rfl) (fun c a d v w h => by cases d <;> exact h) (oi := ?_) ?_ ?_ (by assumption) ?_
            rotate_left 2
            · (simp only [List.getElem?_toArray, List.getElem?_cons_succ, List.getElem?_cons_zero]; rfl)
            · (refine Or.inl ⟨by rfl, ?_⟩; intro w hSw; (try dsimp only at hSw); go_simp; try with_reducible rfl)
            try simp only [Act.put, List.setIfInBounds_toArray, List.set_cons_zero, List.set_cons_succ]
            refine takeO (i := 6) (v := ?_) (by kernel_rfl) (by kernel_rfl) (by kernel_rfl) (fun c a d v w h => by cases d <;> exact h) (oi := ?_) ?_ ?_ (by assumption) ?_
            rotate_left 2
            · (simp only [List.getElem?_toArray, List.getElem?_cons_succ, List.getElem?_cons_zero]; rfl)
            · (refine Or.inl ⟨by rfl, ?_⟩; intro w hSw; (try dsimp only at hSw); go_simp; try with_reducible rfl)
            try simp only [Act.put, List.setIfInBounds_toArray, List.set_cons_zero, List.set_cons_succ]
            refine takeO (i := 7) (v := ?_) (by kernel_rfl) (by kernel_rfl) (by kernel_rfl) (fun c a d v w h => by cases d <;> exact h) (oi := ?_) ?_ ?_ (by assumption) ?_
            rotate_left 2
            · (simp only [List.getElem?_toArray, List.getElem?_cons_succ, List.getElem?_cons_zero]; rfl)
            · (refine Or.inl ⟨by rfl, ?_⟩; intro w hSw; (try dsimp only at hSw); go_simp; try with_reducible rfl)
            try simp only [Act.put, List.setIfInBounds_toArray, List.set_cons_zero, List.set_cons_succ]
            refine takeO (i := 8) (v := ?_) (by kernel_rfl) (by kernel_rfl) (by kernel_rfl) (fun c a d v w h => by cases d <;> exact h) (oi := ?_) ?_ ?_ (by assumption) ?_
            rotate_left 2
            · (simp only [List.getElem?_toArray, List.getElem?_cons_succ, List.getElem?_cons_zero]; rfl)
            · (refine Or.inl ⟨by rfl, ?_⟩; intro w hSw; (try dsimp only at hSw); go_simp; try with_reducible rfl)
            try simp only [Act.put, List.setIfInBounds_toArray, List.set_cons_zero, List.set_cons_succ]
            refine takeO (i := 9) (v := ?_) (by kernel_rfl) (by kernel_rfl) (by kernel_rfl) (fun c a d v w h => by cases d <;> exact h) (oi := ?_) ?_ ?_ (by assumption) ?_
            rotate_left 2
            · (simp only [List.getElem?_toArray, List.getElem?_cons_succ, List.getElem?_cons_zero]; rfl)
            · (refine Or.inl ⟨by rfl, ?_⟩; intro w hSw; (try dsimp only at hSw); go_simp; try with_reducible rfl)
            try simp only [Act.put, List.setIfInBounds_toArray, List.set_cons_zero, List.set_cons_succ]
            refine takeO (i := 10) (v := ?_) (by kernel_rfl) (by kernel_rfl) (by kernel_rfl) (fun c a d v w h => by cases d <;> exact h) (oi := ?_) ?_ ?_ (by assumption) ?_
            rotate_left 2
            · (simp only [List.getElem?_toArray, List.getElem?_cons_succ, List.getElem?_cons_zero]; rfl)
            · (refine Or.inl ⟨by rfl, ?_⟩; intro w hSw; (try dsimp only at hSw); go_simp; try with_reducible rfl)
            try simp only [Act.put, List.setIfInBounds_toArray, List.set_cons_zero, List.set_cons_succ]
            refine takeO (i := 11) (v := ?_) (by kernel_rfl) (by kernel_rfl) (by kernel_rfl) (fun c a d v w h => by cases d <;> exact h) (oi := ?_) ?_ ?_ (by assumption) ?_
            rotate_left 2
            · (simp only [List.getElem?_toArray, List.getElem?_cons_succ, List.getElem?_cons_zero]; rfl)
            · (refine Or.inl ⟨by rfl, ?_⟩; intro w hSw; (try dsimp only at hSw); go_simp; try with_reducible rfl)
            try simp only [Act.put, List.setIfInBounds_toArray, List.set_cons_zero, List.set_cons_succ]
            refine takeO (i := 12) (v := .int .i64 (r : Int)) (by kernel_rfl) (by kernel_rfl) (by kernel_rfl) (fun c a d v w h => by cases d <;> exact h) (oi := ?_) ?_ ?_ (by assumption) ?_
            rotate_left 1
            · (simp only [List.getElem?_toArray, List.getElem?_cons_succ, List.getElem?_cons_zero]; rfl)
            · (refine Or.inl ⟨by rfl, ?_⟩; intro w hSw; clear hSw; go_simp; rw [hwr1.out, hwr2.out, if_neg hwr3.out, hwr4.out])
            try simp only [Act.put, List.setIfInBounds_toArray, List.set_cons_zero, List.set_cons_succ]
            refine takeO (i := 13) (v := .slice Z r cz) (by kernel_rfl) (by kernel_rfl) (by kernel_rfl) (fun c a d v w h => by cases d <;> exact h) (oi := ?_) ?_ ?_ (by assumption) ?_
            rotate_left 1
            · (simp only [List.getElem?_toArray, List.getElem?_cons_succ, List.getElem?_cons_zero]; rfl)
            · (refine Or.inl ⟨by rfl, ?_⟩; intro w hSw; clear hSw; go_simp; try rfl)
            try simp only [Act.put, List.setIfInBounds_toArray, List.set_cons_zero, List.set_cons_succ]
            refine takeO (i := 14) (v := ?_) (by kernel_rfl) (by kernel_rfl) (by kernel_rfl) (fun c a d v w h => by cases d <;> exact h) (oi := ?_) ?_ ?_ (by assumption) ?_
            rotate_left 2
            · (simp only [List.getElem?_toArray, List.getElem?_cons_succ, List.getElem?_cons_zero]; rfl)
            · (refine Or.inl ⟨by rfl, ?_⟩; intro w hSw; (try dsimp only at hSw); go_simp; try with_reducible rfl)
            try simp only [Act.put, List.setIfInBounds_toArray, List.set_cons_zero, List.set_cons_succ]
            refine wpAnyH_ready (rs := [15, 20]) (by kernel_rfl) (by simp) ?_
            refine AllReadyH.cons rfl (fun K hK => ?_) (AllReadyH.cons rfl (fun K hK => ?_) AllReadyH.nil)
            · go_simp
              refine (HPLr.out _ (HI.out.2.2.2.drew)).mono ?_
              rintro e w5 ⟨mv, x, hx1, hx2, rfl, hk5, hx3⟩
              have HK5 := hid (HI.out.2.2.2.drew.then hk5)
              have HX1 := hid hx1
              have HX2 := hid hx2
              have HX3 := hid hx3
              have HK5r := hid ((Keep.refl (fun _ => False) wr).drew.then hk5)
              clear hk5 hx1 hx2 hx3
              refine hK.out _ _ (HSX.out _ HK5.out) (fun hHeldA => ?_)
              clear hK K
              try simp only [Act.put, List.setIfInBounds_toArray, List.set_cons_zero, List.set_cons_succ]
              refine takeO (i := 16) (v := ?_) (by kernel_rfl) (by kernel_rfl) (by kernel_rfl) (fun c a d v w h => by cases d <;> exact h) (oi := ?_) ?_ ?_ (by assumption) ?_
              rotate_left 2
              · (simp only [List.getElem?_toArray, List.getElem?_cons_succ, List.getElem?_cons_zero]; rfl)
              · (refine Or.inl ⟨by rfl, ?_⟩; intro w hSw; (try dsimp only at hSw); go_simp; try with_reducible rfl)
              try simp only [Act.put, List.setIfInBounds_toArray, List.set_cons_zero, List.set_cons_succ]
              refine takeO (i := 17) (v := ?_) (by kernel_rfl) (by kernel_rfl) (by kernel_rfl) (fun c a d v w h => by cases d <;> exact h) (oi := ?_) ?_ ?_ (by assumption) ?_
              rotate_left 2
              · (simp only [List.getElem?_toArray, List.getElem?_cons_succ, List.getElem?_cons_zero]; rfl)
              · (refine Or.inl ⟨by rfl, ?_⟩; intro w hSw; (try dsimp only at hSw); go_simp; try with_reducible rfl)
              try simp only [Act.put, List.setIfInBounds_toArray, List.set_cons_zero, List.set_cons_succ]
              refine takeO (i := 18) (v := ?_) (by kernel_rfl) (by kernel_rfl) (by kernel_rfl) (fun c a d v w h => by cases d <;> exact h) (oi := ?_) ?_ ?_ (by assumption) ?_
              rotate_left 2
              · (simp only [List.getElem?_toArray, List.getElem?_cons_succ, List.getElem?_cons_zero]; rfl)
              · (refine Or.inl ⟨by rfl, ?_⟩; intro w hSw; (try dsimp only at hSw); go_simp; try with_reducible rfl)
              try simp only [Act.put, List.setIfInBounds_toArray, List.set_cons_zero, List.set_cons_succ]
              refine takeO (i := 19) (v := ?_) (by kernel_rfl) (by kernel_rfl) (by kernel_rfl) (fun c a d v w h => by cases d <;> exact h) (oi := ?_) ?_ ?_ (by assumption) ?_
              rotate_left 2
              · (simp only [List.getElem?_toArray, List.getElem?_cons_succ, List.getElem?_cons_zero]; rfl)
              · (refine Or.inl ⟨by rfl, ?_⟩; intro w hSw; (try dsimp only at hSw); go_simp; try with_reducible rfl)
              try simp only [Act.put, List.setIfInBounds_toArray, List.set_cons_zero, List.set_cons_succ]
              refine wpAnyH_ready (rs := [20]) (by kernel_rfl) (by simp) ?_
              refine AllReadyH.cons rfl (fun K hK => ?_) AllReadyH.nil
              go_simp
              have hbn := Blk.made w5 36 #[.int .i64 0, .slice none 0 0, .slice none 0 0, .slice none 0 0, .slice none 0 0, .int .i64 0, .int .i64 0, .int .i64 0, .int .i64 0, .int .i64 0, .int .i64 0, .int .i64 0, .int .i64 0, .int .i64 0, .int .i64 0, .slice none 0 0]
              have HBN := hid hbn
              have HKN := hid (show Same w5 (w5.alloc (.cells #[.int .i64 0, .slice none 0 0, .slice none 0 0, .slice none 0 0, .slice none 0 0, .int .i64 0, .int .i64 0, .int .i64 0, .int .i64 0, .int .i64 0, .int .i64 0, .int .i64 0, .int .i64 0, .int .i64 0, .int .i64 0, .slice none 0 0] 36)) from (Keep.refl _ _).alloc _)
              clear hbn
              refine hK.out _ _ (HSX.out _ (HK5.out.then HKN.out)) (fun hHeldB => ?_)
              clear hK K
              try simp only [Act.put, List.setIfInBounds_toArray, List.set_cons_zero, List.set_cons_succ]
              refine takeO (i := 21) (v := ?_) (by kernel_rfl) (by kernel_rfl) (by kernel_rfl) (fun c a d v w h => by cases d <;> exact h) (oi := ?_) ?_ ?_ (by assumption) ?_
              rotate_left 2
              · (simp only [List.getElem?_toArray, List.getElem?_cons_succ, List.getElem?_cons_zero]; rfl)
              · (refine Or.inl ⟨by rfl, ?_⟩; intro w hSw; (try dsimp only at hSw); go_simp; try with_reducible rfl)
              try simp only [Act.put, List.setIfInBounds_toArray, List.set_cons_zero, List.set_cons_succ]
              refine wpAnyH_ready (rs := [22]) (by kernel_rfl) (by simp) ?_
              refine AllReadyH.cons rfl (fun K hK => ?_) AllReadyH.nil
              have hbs := HBN.out
              have hk9 : Keep (fun i => i = w5.heap.size) w5 (((w5.alloc (.cells #[.int .i64 0, .slice none 0 0, .slice none 0 0, .slice none 0 0, .slice none 0 0, .int .i64 0, .int .i64 0, .int .i64 0, .int .i64 0, .int .i64 0, .int .i64 0, .int .i64 0, .int .i64 0, .int .i64 0, .int .i64 0, .slice none 0 0] 36))).setRow (w5.heap.size) x.toArray) := ((Keep.refl _ w5).alloc _).trans (Keep.row _ _ _) (fun i _ e => e)
              refine store_step rfl _ (.tmp 13) (.tmp 63) rfl (w5.heap.size) x.toArray rfl rfl 36 _ hbs (by rw [List.size_toArray, HX1.out]; kernel_rfl) (by rw [show x.toArray.size = 16 from by rw [List.size_toArray, HX1.out]]; rfl) (one_toArray HX2.out) ?_
              have hkF : Same wr (((w5.alloc (.cells #[.int .i64 0, .slice none 0 0, .slice none 0 0, .slice none 0 0, .slice none 0 0, .int .i64 0, .int .i64 0, .int .i64 0, .int .i64 0, .int .i64 0, .int .i64 0, .int .i64 0, .int .i64 0, .int .i64 0, .int .i64 0, .slice none 0 0] 36))).setRow (w5.heap.size) x.toArray) := HK5r.out.trans hk9 (fun i hi e => by have e2 : i = w5.heap.size := e; have h9 := HK5r.out.size; omega)
              have HKF := hid hkF
              have HDF : Hid (mv = none ∨ GX c acts r (((w5.alloc (.cells #[.int .i64 0, .slice none 0 0, .slice none 0 0, .slice none 0 0, .slice none 0 0, .int .i64 0, .int .i64 0, .int .i64 0, .int .i64 0, .int .i64 0, .int .i64 0, .int .i64 0, .int .i64 0, .int .i64 0, .int .i64 0, .slice none 0 0] 36))).setRow (w5.heap.size) x.toArray) mv) := hid (HX3.out.imp id (fun h => by
                obtain ⟨mb, tb, sb, A, cp, e1, hd, l1, l2, l3⟩ := h
                have d1 := hd.top.lt
                have d2 := hd.tab.top.lt
                have d3 := hd.tab.row.lt
                exact ⟨mb, tb, sb, A, cp, e1, hd.keep hk9 (by omega) (by omega) (by omega)⟩))
              refine hK.out _ _ (HSX.out _ (HI.out.2.2.2.then hkF)) (fun hHeldC => ?_)
              clear hK K hkF hbs hk9
              try simp only [Act.put, List.setIfInBounds_toArray, List.set_cons_zero, List.set_cons_succ]
              refine takeO (i := 23) (v := ?_) (by kernel_rfl) (by kernel_rfl) (by kernel_rfl) (fun c a d v w h => by cases d <;> exact h) (oi := ?_) ?_ ?_ (by assumption) ?_
              rotate_left 2
              · (simp only [List.getElem?_toArray, List.getElem?_cons_succ, List.getElem?_cons_zero]; rfl)
              · (refine Or.inl ⟨by rfl, ?_⟩; intro w hSw; (try dsimp only at hSw); go_simp; try with_reducible rfl)
              try simp only [Act.put, List.setIfInBounds_toArray, List.set_cons_zero, List.set_cons_succ]
              refine wpAnyH_done (by kernel_rfl) ?_ _
              go_wp2_with fail
              go_meet
              exact ⟨mv, rfl, rfl, hid ⟨HKF.out, HDF.out⟩⟩
            · go_simp
              have hbn := Blk.made wr.drew 36 #[.int .i64 0, .slice none 0 0, .slice none 0 0, .slice none 0 0, .slice none 0 0, .int .i64 0, .int .i64 0, .int .i64 0, .int .i64 0, .int .i64 0, .int .i64 0, .int .i64 0, .int .i64 0, .int .i64 0, .int .i64 0, .slice none 0 0]
              have HBN := hid hbn
              have HKN := hid (show Same wr.drew (wr.drew.alloc (.cells #[.int .i64 0, .slice none 0 0, .slice none 0 0, .slice none 0 0, .slice none 0 0, .int .i64 0, .int .i64 0, .int .i64 0, .int .i64 0, .int .i64 0, .int .i64 0, .int .i64 0, .int .i64 0, .int .i64 0, .int .i64 0, .slice none 0 0] 36)) from (Keep.refl _ _).alloc _)
              clear hbn
              refine hK.out _ _ (HSX.out _ (HI.out.2.2.2.drew.then HKN.out)) (fun hHeldB => ?_)
              clear hK K
              try simp only [Act.put, List.setIfInBounds_toArray, List.set_cons_zero, List.set_cons_succ]
              refine wpAnyH_ready (rs := [15]) (by kernel_rfl) (by simp) ?_
              refine AllReadyH.cons rfl (fun K hK => ?_) AllReadyH.nil
              go_simp
              refine (HPLr.out _ (HI.out.2.2.2.drew.then HKN.out)).mono ?_
              rintro e w5 ⟨mv, x, hx1, hx2, rfl, hk5, hx3⟩
              have HK5 := hid ((HI.out.2.2.2.drew.then HKN.out).then hk5)
              have HX1 := hid hx1
              have HX2 := hid hx2
              have HX3 := hid hx3
              have HK5r := hid (((Keep.refl (fun _ => False) wr).drew.then HKN.out).then hk5)
              have HBN5 := hid (HBN.out.keep hk5 (fun f => f))
              clear hk5 hx1 hx2 hx3
              refine hK.out _ _ (HSX.out _ HK5.out) (fun hHeldA => ?_)
              clear hK K
              try simp only [Act.put, List.setIfInBounds_toArray, List.set_cons_zero, List.set_cons_succ]
              refine takeO (i := 16) (v := ?_) (by kernel_rfl) (by kernel_rfl) (by kernel_rfl) (fun c a d v w h => by cases d <;> exact h) (oi := ?_) ?_ ?_ (by assumption) ?_
              rotate_left 2
              · (simp only [List.getElem?_toArray, List.getElem?_cons_succ, List.getElem?_cons_zero]; rfl)
              · (refine Or.inl ⟨by rfl, ?_⟩; intro w hSw; (try dsimp only at hSw); go_simp; try with_reducible rfl)
              try simp only [Act.put, List.setIfInBounds_toArray, List.set_cons_zero, List.set_cons_succ]
              refine takeO (i := 17) (v := ?_) (by kernel_rfl) (by kernel_rfl) (by kernel_rfl) (fun c a d v w h => by cases d <;> exact h) (oi := ?_) ?_ ?_ (by assumption) ?_
              rotate_left 2
              · (simp only [List.getElem?_toArray, List.getElem?_cons_succ, List.getElem?_cons_zero]; rfl)
              · (refine Or.inl ⟨by rfl, ?_⟩; intro w hSw; (try dsimp only at hSw); go_simp; try with_reducible rfl)
              try simp only [Act.put, List.setIfInBounds_toArray, List.set_cons_zero, List.set_cons_succ]
              refine takeO (i := 18) (v := ?_) (by kernel_rfl) (by kernel_rfl) (by kernel_rfl) (fun c a d v w h => by cases d <;> exact h) (oi := ?_) ?_ ?_ (by assumption) ?_
              rotate_left 2
              · (simp only [List.getElem?_toArray, List.getElem?_cons_succ, List.getElem?_cons_zero]; rfl)
              · (refine Or.inl ⟨by rfl, ?_⟩; intro w hSw; (try dsimp only at hSw); go_simp; try with_reducible rfl)
              try simp only [Act.put, List.setIfInBounds_toArray, List.set_cons_zero, List.set_cons_succ]
              refine takeO (i := 19) (v := ?_) (by kernel_rfl) (by kernel_rfl) (by kernel_rfl) (fun c a d v w h => by cases d <;> exact h) (oi := ?_) ?_ ?_ (by assumption) ?_
              rotate_left 2
              · (simp only [List.getElem?_toArray, List.getElem?_cons_succ, List.getElem?_cons_zero]; rfl)
              · (refine Or.inl ⟨by rfl, ?_⟩; intro w hSw; (try dsimp only at hSw); go_simp; try with_reducible rfl)
              try simp only [Act.put, List.setIfInBounds_toArray, List.set_cons_zero, List.set_cons_succ]
              refine takeO (i := 21) (v := ?_) (by kernel_rfl) (by kernel_rfl) (by kernel_rfl) (fun c a d v w h => by cases d <;> exact h) (oi := ?_) ?_ ?_ (by assumption) ?_
              rotate_left 2
              · (simp only [List.getElem?_toArray, List.getElem?_cons_succ, List.getElem?_cons_zero]; rfl)
              · (refine Or.inl ⟨by rfl, ?_⟩; intro w hSw; (try dsimp only at hSw); go_simp; try with_reducible rfl)
              try simp only [Act.put, List.setIfInBounds_toArray, List.set_cons_zero, List.set_cons_succ]
              refine wpAnyH_ready (rs := [22]) (by kernel_rfl) (by simp) ?_
              refine AllReadyH.cons rfl (fun K hK => ?_) AllReadyH.nil
              have hbs := HBN5.out
              have hk9 : Keep (fun i => i = wr.drew.heap.size) w5 ((w5).setRow (wr.drew.heap.size) x.toArray) := Keep.row _ _ _
              refine store_step rfl _ (.tmp 13) (.tmp 63) rfl (wr.drew.heap.size) x.toArray rfl rfl 36 _ hbs (by rw [List.size_toArray, HX1.out]; kernel_rfl) (by rw [show x.toArray.size = 16 from by rw [List.size_toArray, HX1.out]]; rfl) (one_toArray HX2.out) ?_
              have hkF : Same wr ((w5).setRow (wr.drew.heap.size) x.toArray) := HK5r.out.trans hk9 (fun i hi e => by have e2 : i = wr.drew.heap.size := e; have h9 := (show wr.heap.size ≤ wr.drew.heap.size from Nat.le_refl _); omega)
              have HKF := hid hkF
              have HDF : Hid (mv = none ∨ GX c acts r ((w5).setRow (wr.drew.heap.size) x.toArray) mv) := hid (HX3.out.imp id (fun h => by
                obtain ⟨mb, tb, sb, A, cp, e1, hd, l1, l2, l3⟩ := h
                have d1 := hd.top.lt
                have d2 := hd.tab.top.lt
                have d3 := hd.tab.row.lt
                exact ⟨mb, tb, sb, A, cp, e1, hd.keep hk9 (by have e0 : (wr.drew.alloc (.cells #[.int .i64 0, .slice none 0 0, .slice none 0 0, .slice none 0 0, .slice none 0 0, .int .i64 0, .int .i64 0, .int .i64 0, .int .i64 0, .int .i64 0, .int .i64 0, .int .i64 0, .int .i64 0, .int .i64 0, .int .i64 0, .slice none 0 0] 36)).heap.size = wr.drew.heap.size + 1 := World.size_alloc _ _; omega) (by have e0 : (wr.drew.alloc (.cells #[.int .i64 0, .slice none 0 0, .slice none 0 0, .slice none 0 0, .slice none 0 0, .int .i64 0, .int .i64 0, .int .i64 0, .int .i64 0, .int .i64 0, .int .i64 0, .int .i64 0, .int .i64 0, .int .i64 0, .int .i64 0, .slice none 0 0] 36)).heap.size = wr.drew.heap.size + 1 := World.size_alloc _ _; omega) (by have e0 : (wr.drew.alloc (.cells #[.int .i64 0, .slice none 0 0, .slice none 0 0, .slice none 0 0, .slice none 0 0, .int .i64 0, .int .i64 0, .int .i64 0, .int .i64 0, .int .i64 0, .int .i64 0, .int .i64 0, .int .i64 0, .int .i64 0, .int .i64 0, .slice none 0 0] 36)).heap.size = wr.drew.heap.size + 1 := World.size_alloc _ _; omega)⟩))
              refine hK.out _ _ (HSX.out _ (HI.out.2.2.2.then hkF)) (fun hHeldC => ?_)
              clear hK K hkF hbs hk9
              try simp only [Act.put, List.setIfInBounds_toArray, List.set_cons_zero, List.set_cons_succ]
              refine takeO (i := 23) (v := ?_) (by kernel_rfl) (by kernel_rfl) (by kernel_rfl) (fun c a d v w h => by cases d <;> exact h) (oi := ?_) ?_ ?_ (by assumption) ?_
              rotate_left 2
              · (simp only [List.getElem?_toArray, List.getElem?_cons_succ, List.getElem?_cons_zero]; rfl)
              · (refine Or.inl ⟨by rfl, ?_⟩; intro w hSw; (try dsimp only at hSw); go_simp; try with_reducible rfl)
              try simp only [Act.put, List.setIfInBounds_toArray, List.set_cons_zero, List.set_cons_succ]
              refine wpAnyH_done (by kernel_rfl) ?_ _
              go_wp2_with fail
              go_meet
              exact ⟨mv, rfl, rfl, hid ⟨HKF.out, HDF.out⟩⟩
          case rest =>
            obtain ⟨mv, rfl, rfl, HC⟩ := hcut
            obtain ⟨hkc, hmv⟩ := HC.out
            have HKC := hid hkc
            have hbt := HI.out.1.keep hkc (fun f => f)
            have HBT := hid hbt
            have HKW := hid (HI.out.2.2.2.then hkc)
            clear hkc
            rcases hmv with rfl | hmv
            · clear hbt
              go_wp2_with fail
              (with_reducible refine (HAW.out _).mono ?_)
              rintro e w6 ⟨rfl, hk6⟩
              have HK6 := hid (HKW.out.then hk6)
              clear hk6
              go_wp2_with fail
              go_ret
              exact ⟨rfl, HW.out.then HK6.out⟩
            · have HGV := hid hmv
              obtain ⟨mb, tb, sb, A, cp, rfl, _⟩ := hmv
              rcases (show k = 0 ∨ k = 1 by omega) with rfl | rfl
              · have y0 := hbt.at_ 0
                have f0 := hbt.free 0
                have l0 := hbt.lt
                have y0' : _ = some (Value.pointer v0) := y0
                clear hbt y0
                go_wp2_with fail
                go_roundw
                case rel =>
                  refine ⟨1, some ⟨mb, 0, none⟩, v1, by omega, by go_num, hid ⟨?_, fun _ => ?_, fun h => by omega, HKW.out.setCell (fun h => absurd (show wx.heap.size < w1.heap.size from h) (by omega)) _⟩⟩
                  · exact HBT.out.put 0 (.pointer (some ⟨mb, 0, none⟩))
                  · rw [HR.out] at HGV
                    exact HGV.out.far HBT.out ((Keep.refl _ _).put 0 _)
                case measure => simp [RowKit.intOf]
              · have y1 := hbt.at_ 1
                have f1 := hbt.free 1
                have l0 := hbt.lt
                have y1' : _ = some (Value.pointer v1) := y1
                clear hbt y1
                go_wp2_with fail
                go_roundw
                case rel =>
                  refine ⟨2, v0, some ⟨mb, 0, none⟩, by omega, by go_num, hid ⟨?_, fun _ => ?_, fun _ => ?_, HKW.out.setCell (fun h => absurd (show wx.heap.size < w1.heap.size from h) (by omega)) _⟩⟩
                  · exact HBT.out.put 1 (.pointer (some ⟨mb, 0, none⟩))
                  · exact ((HI.out.2.1 (by omega)).same HC.out.1).far HBT.out ((Keep.refl _ _).put 1 _)
                  · rw [HR.out] at HGV
                    exact HGV.out.far HBT.out ((Keep.refl _ _).put 1 _)
                case measure => simp [RowKit.intOf]
        · obtain rfl : k = 2 := by omega
          obtain ⟨hbt, hg0, hg1, hks⟩ := HI.out
          obtain ⟨m0, tb0, sb0, A0, cp0, rfl, hd0⟩ := hg0 (by omega)
          obtain ⟨m1, tb1, sb1, A1, cp1, rfl, hd1⟩ := hg1 (by omega)
          obtain ⟨wz, hwz⟩ : ∃ x, x = wr := ⟨_, rfl⟩
          subst hwz
          have HKZ := hid hks
          have HACT0 := hid (fun W (hk : Same wz W) ce => active_da W m0 tb0 sb0 A0 cp0 c _ (hd0.same hk) ce now)
          have HACT1 := hid (fun W (hk : Same wz W) ce => active_da W m1 tb1 sb1 A1 cp1 c _ (hd1.same hk) ce now)
          unfold LsPost at HACT0 HACT1
          have HNOT := hid (fun a b x hab hx hy => two_not c acts (initL c.cen.toNat c.h3) now HALL.out (rr 0) (rr 1) a b hab (x := x) hx hy)
          have HBT := hid (fun W (hk : Same wz W) => hbt.keep hk (fun f => f))
          have HC0 := hid (fun W (hk : Same wz W) => (HBC.out W (hks.then hk)).c0)
          have hn9 := hd0.ok.hi
          have hn0 := hd0.ok.lo
          have hx9 := hd0.ok.small
          have hx8 := hd1.ok.small
          clear hbt hg0 hg1 hks hd0 hd1 HI
          generalize hP0 : runD c (acts.take (rr 0)) (initL c.cen.toNat c.h3) = P0 at *
          generalize hP1 : runD c (acts.take (rr 1)) (initL c.cen.toNat c.h3) = P1 at *
          clear hP0 hP1
          obtain ⟨N, hN⟩ : ∃ N : Nat, c.cen = (N : Int) := ⟨c.cen.toNat, by omega⟩
          rw [hN] at HC0 hn9 hn0
          clear hN
          have c0 := HC0.out wz (Keep.refl _ _)
          go_wp2_with fail
          clear c0
          go_loopw [78] (fun i wr => ∃ k : Nat, k ≤ N ∧ i = .int .i64 k ∧ Hid (Same wz wr)) (fun i _ => N - (RowKit.intOf i).toNat)
          case atStart => exact ⟨0, by omega, rfl, hid (Keep.refl _ _)⟩
          case round =>
            obtain ⟨k, hk, rfl, HI⟩ := hrel
            by_cases hlk : k < N
            · have hk1 : (k : Int) < (N : Int) := by omega
              have c0 := HC0.out wr HI.out
              obtain ⟨wa, hwa⟩ : ∃ x, x = wr := ⟨_, rfl⟩
              subst hwa
              go_wp2_with fail
              clear c0
              go_loopw [84] (fun i wr => ∃ q : Nat, q ≤ N ∧ i = .int .i64 q ∧ Hid (Same wz wr)) (fun i _ => N - (RowKit.intOf i).toNat)
              case atStart => exact ⟨0, by omega, rfl, hid HI.out⟩
              case round =>
                obtain ⟨q, hq, rfl, HJ⟩ := hrel
                by_cases hlq : q < N
                · have hq1 : (q : Int) < (N : Int) := by omega
                  by_cases hkq : (k : Int) = (q : Int)
                  · have g1 : ((k : Int) == (q : Int)) = true := by simp [hkq]
                    clear hkq
                    go_wp2_with fail
                    go_roundw
                    case rel => exact ⟨q + 1, by omega, by go_num, HJ⟩
                    case measure => simp [RowKit.intOf]; omega
                  · have g1 : ((k : Int) == (q : Int)) = false := by simp [hkq]
                    have HNX := hid (fun x hx hy => HNOT.out (k : Int) (q : Int) x hkq hx hy)
                    have HA0 := hid (HACT0.out wr HJ.out (k : Int))
                    have hle0 : (pick (actB (k : Int) now) P0 P0.length).length ≤ 64 := Nat.le_trans (pick_le _) hx9
                    have hle1 : (pick (actB (q : Int) now) P1 P1.length).length ≤ 64 := Nat.le_trans (pick_le _) hx8
                    have HA1 := hid (fun W hk => HACT1.out W hk (q : Int))
                    generalize pick (actB (k : Int) now) P0 P0.length = LA at *
                    generalize pick (actB (q : Int) now) P1 P1.length = LB at *
                    have y0 : wr.cell? ⟨wx.heap.size, 0, none⟩ = some (.pointer (some ⟨m0, 0, none⟩)) := (HBT.out wr HJ.out).at_ 0
                    obtain ⟨wb, hwb⟩ : ∃ x, x = wr := ⟨_, rfl⟩
                    subst hwb
                    clear hkq
                    go_wp2_with fail
                    (with_reducible refine HA0.out.mono ?_)
                    rintro e w6 ⟨B6, d6, rfl, hs6, hk6⟩
                    have HK6 := hid (HJ.out.then hk6)
                    have HS6 := hid (fun W (hk : Same w6 W) => hs6.same hk)
                    clear hs6 hk6 y0
                    go_wp2_with fail
                    go_loopw [96] (fun i wr => ∃ a : Nat, a ≤ LA.length ∧ i = .int .i64 a ∧ Hid (Same w6 wr)) (fun i _ => LA.length - (RowKit.intOf i).toNat)
                    case atStart => exact ⟨0, by omega, rfl, hid (Keep.refl _ _)⟩
                    case round =>
                      obtain ⟨a, ha, rfl, HM⟩ := hrel
                      by_cases hla : a < LA.length
                      · obtain ⟨x, hx⟩ := get_some hla
                        have ha1 : (a : Int) < (LA.length : Int) := by omega
                        obtain ⟨b1, o1, rfl, _, q1⟩ := ints_at (HS6.out wr HM.out) hx
                        have HXM := hid (List.mem_of_getElem? hx)
                        have y1 : wr.cell? ⟨wx.heap.size, 1, none⟩ = some (.pointer (some ⟨m1, 0, none⟩)) := (HBT.out wr (HK6.out.then HM.out)).at_ 1
                        have HA1w := hid (HA1.out wr (HK6.out.then HM.out))
                        obtain ⟨wc, hwc⟩ : ∃ x, x = wr := ⟨_, rfl⟩
                        subst hwc
                        clear hx
                        go_wp2_with fail
                        (with_reducible refine HA1w.out.mono ?_)
                        rintro e w7 ⟨B7, d7, rfl, hs7, hk7⟩
                        have HK7 := hid (HM.out.then hk7)
                        have HS7 := hid (fun W (hk : Same w7 W) => hs7.same hk)
                        clear hs7 hk7 y1 q1
                        go_wp2_with fail
                        go_loopw [106] (fun i wr => ∃ b : Nat, b ≤ LB.length ∧ i = .int .i64 b ∧ Hid (Same w7 wr)) (fun i _ => LB.length - (RowKit.intOf i).toNat)
                        case atStart => exact ⟨0, by omega, rfl, hid (Keep.refl _ _)⟩
                        case round =>
                          obtain ⟨b, hb, rfl, HP⟩ := hrel
                          by_cases hlb : b < LB.length
                          · obtain ⟨y, hy⟩ := get_some hlb
                            have hb1' : (b : Int) < (LB.length : Int) := by omega
                            obtain ⟨b2, o2, rfl, _, q2⟩ := ints_at (HS7.out wr HP.out) hy
                            have hxy : (x == y) = false := by
                              have hm := List.mem_of_getElem? hy
                              have hm2 := HXM.out
                              simp
                              rintro rfl
                              exact HNX.out x hm2 hm
                            clear hy
                            go_wp2_with fail
                            go_roundw
                            case rel => exact ⟨b + 1, by omega, by go_num, HP⟩
                            case measure => simp [RowKit.intOf]; omega
                          · have hb1' : (LB.length : Int) ≤ (b : Int) := by omega
                            go_wp2_with fail
                            go_roundw
                            case rel => exact ⟨a + 1, by omega, by go_num, hid (HK7.out.then HP.out)⟩
                            case measure => simp [RowKit.intOf]; omega
                      · have ha1 : (LA.length : Int) ≤ (a : Int) := by omega
                        go_wp2_with fail
                        go_roundw
                        case rel => first | exact ⟨q + 1, by omega, by go_num, hid (HK6.out.then HM.out)⟩ | ((repeat apply Exists.intro); refine And.intro ?_ rfl; exact ⟨q + 1, by omega, by go_num, hid (HK6.out.then HM.out)⟩)
                        case measure => simp [RowKit.intOf]; omega
                · have hq1 : (N : Int) ≤ (q : Int) := by omega
                  go_wp2_with fail
                  go_roundw
                  case rel => exact ⟨k + 1, by omega, by go_num, HJ⟩
                  case measure => simp [RowKit.intOf]; omega
            · have hk1 : (N : Int) ≤ (k : Int) := by omega
              go_wp2_with fail
              (with_reducible refine (HAW.out _).mono ?_)
              rintro e w8 ⟨rfl, hk8⟩
              have HK8 := hid ((HKZ.out.then HI.out).then hk8)
              clear hk8
              go_wp2_with fail
              go_ret
              exact ⟨rfl, HW.out.then HK8.out⟩
end Go.Proofs.Ytmkcphhgimlkgaa

import Derived.Test.YtmkcphhgimlkgaaDiI
import Derived.Deep.CutRange
namespace Go.Proofs.Ytmkcphhgimlkgaa
open Go.RowKit

/-! ## Equal lists of numbers -/
set_option maxRecDepth 100000 in
set_option maxHeartbeats 4000000 in
theorem numbers_eq (w : World) (A B : Option Addr) (ca cb : Nat) (l : List Int) (hA : Sl w (fun _ => False) 1 A l.length (icellsC l)) (hB : Sl w (fun _ => False) 1 B l.length (icellsC l)) (hn : l.length ≤ 1000000) :
    Calls Try.prog 15 #[.slice A l.length ca, .slice B l.length cb] w fun e w' => e = .returned (.bool true) ∧ Same w w' := by
  have HA := hid (fun W (hk : Same w W) => hA.same hk)
  have HB := hid (fun W (hk : Same w W) => hB.same hk)
  clear hA hB
  go_enter Try.func15, Try.ntmps15
  go_wp2_with fail
  go_loopw [13] (fun i wr => ∃ k : Nat, k ≤ l.length ∧ i = .int .i64 k ∧ Hid (Same w wr)) (fun i _ => l.length - (RowKit.intOf i).toNat)
  case atStart => exact ⟨0, by omega, rfl, hid (Keep.refl _ _)⟩
  case round =>
    obtain ⟨k, hk, rfl, HI⟩ := hrel
    by_cases hlt : k < l.length
    · obtain ⟨a, ha⟩ := get_some hlt
      obtain ⟨b1, o1, rfl, _, q1⟩ := ints_at (HA.out wr HI.out) ha
      obtain ⟨b2, o2, rfl, _, q2⟩ := ints_at (HB.out wr HI.out) ha
      have hk1 : (k : Int) < (l.length : Int) := by omega
      clear ha
      go_wp2_with fail
      go_quiet (fail)
      go_wp2_with fail
      go_roundw
      case rel => exact ⟨k + 1, by omega, by go_num, hid (HI.out.drewN _)⟩
      case measure => simp [RowKit.intOf]; omega
    · obtain rfl : k = l.length := by omega
      go_wp2_with fail
      go_ret
      exact ⟨rfl, HI.out⟩

/-! ## Acts -/
set_option maxRecDepth 100000 in
set_option maxHeartbeats 4000000 in
theorem acts_any (w : World) (Av : Nat → Prop) (c : CF) (X : Option Addr) (cx : Nat) (l : List St) (hT : Th w Av X l) (hs9 : l.length ≤ 64) (ce now : Int) :
    Calls Try.prog 17 #[.agg (map16 c X l.length cx).toArray, .int .i64 ce, .int .i64 now] w (LsPost w (pick (actB ce now) l l.length)) := by
  have hb := Blk.made w 36 (map16 c X l.length cx).toArray
  have hw : Same w (w.alloc (.cells (map16 c X l.length cx).toArray 36)) := (Keep.refl _ _).alloc _
  generalize hw1 : w.alloc (.cells (map16 c X l.length cx).toArray 36) = w1 at *
  have x15 : w1.cell? ⟨w.heap.size, 15, none⟩ = some (.slice X l.length cx) := hb.at_ 15
  have HT := hid (fun W (hk : Same w1 W) => (hT.same hw).same hk)
  have HW := hid hw
  clear hb hw hT
  go_enter Try.func17, Try.ntmps17
  go_upto_region 1 with fail
  try rw [hw1]
  go_wp2_with fail
  clear x15
  go_loopw [7, 13] (fun v i wr => ∃ (k : Nat) (B : Option Addr) (d : Nat), k ≤ l.length ∧ i = .int .i64 k ∧ v = .slice B (pick (actB ce now) l k).length d ∧ Hid (Own wr w1.heap.size 3 1 (.slice B (pick (actB ce now) l k).length d) (pick (actB ce now) l k).length (icellsC (pick (actB ce now) l k)) ∧ Same w1 wr)) (fun _ i _ => l.length - (intOf i).toNat)
  case atStart => exact ⟨0, none, 0, by omega, rfl, rfl, hid ⟨Own.nil _ _ _ _, Keep.refl _ _⟩⟩
  case round =>
    obtain ⟨k, B, d, hk, rfl, rfl, HI⟩ := hrel
    by_cases hlt : k < l.length
    · obtain ⟨s, hs⟩ := get_some hlt
      obtain ⟨b, off, rfl, hb, c0, c1, c2, c3⟩ := Th.at4 (HT.out wr HI.out.2) hs
      have hk1 : (k : Int) < (l.length : Int) := by omega
      have hple := pick_le (p := actB ce now) (l := l) k
      have HY := hid (pick_yes (p := actB ce now) hs)
      have HN := hid (pick_no (p := actB ce now) hs)
      have hab : actB ce now s = (decide (s.h = ce) && (decide (0 ≤ now) && decide (now ≤ s.u))) := rfl
      generalize hPT : pick (actB ce now) l k = PT at *
      generalize actB ce now s = ab at *
      have hsz1 : w1.heap.size ≤ wr.heap.size := HI.out.2.size
      clear hs hPT
      by_cases g1 : s.h = ce
      · have g1' : (s.h == ce) = true := by simp [g1]
        by_cases g2 : 0 ≤ now
        · by_cases g3 : now ≤ s.u
          · have HN2 := hid (HY.out (by rw [hab]; simp [g1, g2, g3]))
            clear g1 hab
            go_wp2_with (
              at_builtin
              refine E24.law (.tmp 32) (.tmp 34) (.slice B PT.length d) (some ⟨wr.heap.size + 1, 0, none⟩) 1 1 rfl rfl rfl rfl w1.heap.size PT.length _ [.int .i64 k] (HI.out.1.keep (((Keep.refl (fun _ => False) wr).alloc _).alloc _) (fun _ _ _ f => f)) rfl
                (fun _ => ⟨_, rfl, src_new2 rfl⟩) (by intro u hu; simp at hu; subst hu; rfl) (by omega) (by unfold maxLen; omega) (by simp; omega) ?_
              intro A' c' w4 hown hg
              have HOW := hid hown
              have HG := hid hg
              clear hown hg)
            go_roundw
            case rel =>
              refine ⟨k + 1, A', c', by omega, by go_num, by rw [HN2.out]; simp, hid ?_⟩
              rw [HN2.out, icells_snoc]
              refine ⟨by simpa using HOW.out, ?_⟩
              have h1 := HI.out.2.size
              have h2 := HW.out.size
              exact ((HI.out.2.alloc _).alloc _).grown HG.out (fun g e hl => by have h3 := HI.out.1.block g e; omega)
            case measure => simp [intOf]; omega
          · have HN2 := hid (HN.out (by rw [hab]; simp [g3]))
            clear g1 hab
            go_wp2_with fail
            go_roundw
            case rel => exact ⟨k + 1, B, d, by omega, by go_num, by rw [HN2.out], hid (by rw [HN2.out]; exact ⟨HI.out.1.keep ((Keep.refl (fun _ => False) wr).alloc _) (fun _ _ _ f => f), HI.out.2.alloc _⟩)⟩
            case measure => simp [intOf]; omega
        · have HN2 := hid (HN.out (by rw [hab]; simp [g2]))
          clear g1 hab
          go_wp2_with fail
          go_roundw
          case rel => exact ⟨k + 1, B, d, by omega, by go_num, by rw [HN2.out], hid (by rw [HN2.out]; exact ⟨HI.out.1.keep ((Keep.refl (fun _ => False) wr).alloc _) (fun _ _ _ f => f), HI.out.2.alloc _⟩)⟩
          case measure => simp [intOf]; omega
      · have g1' : (s.h == ce) = false := by simp [g1]
        have HN2 := hid (HN.out (by rw [hab]; simp [g1]))
        clear g1 hab
        go_wp2_with fail
        go_roundw
        case rel => exact ⟨k + 1, B, d, by omega, by go_num, by rw [HN2.out], hid (by rw [HN2.out]; exact ⟨HI.out.1.keep ((Keep.refl (fun _ => False) wr).alloc _) (fun _ _ _ f => f), HI.out.2.alloc _⟩)⟩
        case measure => simp [intOf]; omega
    · obtain rfl : k = l.length := by omega
      go_wp2_with fail
      go_ret
      exact ⟨B, d, rfl, HI.out.1.sl (fun g hg => by have h2 := HW.out.size; omega), HW.out.then HI.out.2⟩
end Go.Proofs.Ytmkcphhgimlkgaa

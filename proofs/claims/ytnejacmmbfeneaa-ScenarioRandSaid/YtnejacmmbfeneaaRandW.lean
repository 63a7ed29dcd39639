import Derived.Test.YtnejacmmbfeneaaPickW
import Derived.Deep.RegionHeld3
namespace Go.Proofs.Ytnejacmmbfeneaa
open Go.RowKit

structure Dr where
  k : Int
  K : Int
  n : Int
  A : Option Addr
  m : Nat
  c : Nat
  ws : List Int
def Dr.cells (a : Dr) : List Value := [.int .i64 a.k, .int .i64 a.K, .int .i64 a.n, .slice a.A a.m a.c]
def drFlat (l : List Dr) : List Value := l.flatMap Dr.cells
theorem drFlat_get (l : List Dr) (i j : Nat) (hj : j < 4) : (drFlat l)[i * 4 + j]? = (l[i]?).bind (fun s => s.cells[j]?) := flat_get Dr.cells 4 (fun _ => rfl) l i j hj
/-- what is known of an element -/
structure DrOk (w : World) (a : Dr) : Prop where
  n1 : a.n ≤ 9223372036854775807
  ws : Sl w (fun _ => False) 1 a.A a.m (a.ws.map (Value.int .i64))

/-- the generator's state behind a draw -/
def drA (a : Dr) (s : Int) : Int := if a.k = 0 then aft a.n s else if a.k = 1 then aft a.n s else pickA a.ws s

/-- both generators at s -/
structure Two (w0 w : World) (s : Int) : Prop where
  a : Gn w 63 w0.heap.size s
  b : Gn w 33 (w0.heap.size + 1) s
  k : Same w0 w

set_option maxHeartbeats 2000000 in
theorem scenarioRand_walk (w : World) (s : Int) (h0 : 0 ≤ s) (h1 : s ≤ 18446744073709551615) (A : Option Addr) (n c : Nat) (l : List Dr) (hA : Sl w (fun _ => False) 4 A n (drFlat l)) (hO : ∀ a ∈ l, DrOk w a) :
    Calls Try.prog 4 #[.int .u64 s, .slice A n c] w fun e w' => e = .returned (.bool true) ∧ Same w w' := by
  have hl : l.length = n := by have := hA.len; rw [drFlat, flat_len Dr.cells 4 (fun _ => rfl)] at this; omega
  by_cases hn : 60 < n
  · clear hA hl
    go_enter Try.func4, Try.ntmps4
    go_wp2_with (go_at_call 9; refine (awake_any _).mono ?_; rintro e w' ⟨rfl, hk⟩)
    go_ret
    exact ⟨rfl, hk⟩
  · have hn' : n ≤ 60 := by omega
    have HA := hid hA
    have HO := hid hO
    clear hn hA hO
    go_enter Try.func4, Try.ntmps4
    go_wp2_with (go_at_call 10; refine (newrand_any w s h0 h1).mono ?_; rintro e w' ⟨rfl, rfl⟩)
    go_loopw [23] (fun i wr => ∃ (k : Nat) (t : Int), k ≤ n ∧ i = .int .i64 k ∧ Two w wr t) (fun i _ => n - (RowKit.intOf i).toNat)
    case atStart =>
      refine ⟨0, s, by omega, rfl, ⟨?_, ?_, ((Keep.refl _ _).alloc _).alloc _⟩⟩
      · exact (Gn.new h0 h1).keep ((Keep.refl (fun _ => False) _).alloc _) (fun f => f)
      · have := Gn.new (w := w.alloc (.cells #[.int .u64 s] 63)) (t := 33) h0 h1
        rwa [World.size_alloc] at this
    case round =>
      obtain ⟨k, t, hk, rfl, hT⟩ := hrel
      by_cases hkn : k < n
      · obtain ⟨a, ha⟩ := get_some (l := l) (k := k) (by omega)
        obtain ⟨b, off, rfl, hb, _, hr⟩ := HA.out.at_ (by omega)
        have hcell : ∀ j u, j < 4 → a.cells[j]? = some u → wr.cell? ⟨b, off + (k * 4 + j), none⟩ = some u := fun j u hj hu =>
          (hT.k.cell (p := ⟨b, off + (k * 4 + j), none⟩) hb (fun f => f)).trans (hr (k * 4 + j) u (by rw [drFlat_get l k j hj, ha]; exact hu))
        have q0 : wr.cell? ⟨b, off + k * 4, none⟩ = some (.int .i64 a.k) := hcell 0 _ (by omega) rfl
        have q1 : wr.cell? ⟨b, off + k * 4 + 1, none⟩ = some (.int .i64 a.K) := hcell 1 _ (by omega) rfl
        have q2 : wr.cell? ⟨b, off + k * 4 + 2, none⟩ = some (.int .i64 a.n) := hcell 2 _ (by omega) rfl
        have q3 : wr.cell? ⟨b, off + k * 4 + 3, none⟩ = some (.slice a.A a.m a.c) := hcell 3 _ (by omega) rfl
        have hOk := HO.out a (List.mem_of_getElem? ha)
        obtain ⟨ak, aK, an, aA, am, ac, aws⟩ := a
        simp only at q0 q1 q2 q3
        have HT := hid hT
        have HOk := hid hOk
        have hz := hT.k.size
        have hz1 := hT.b.blk.lt
        have hz2 := hT.a.blk.lt
        clear hcell hr ha hT hOk
        by_cases hm : 30 < am
        · go_wp2_with (go_at_call 9; refine (awake_any _).mono ?_; rintro e w' ⟨rfl, hk⟩)
          go_ret
          exact ⟨rfl, (HT.out.k.alloc _).then hk⟩
        · have hm' : am ≤ 30 := by omega
          clear hm
          by_cases hk0 : ak = 0
          · subst hk0
            have hB := Blk.made wr 35 #[.int .i64 0, .int .i64 aK, .int .i64 an, .slice aA am ac]
            have hka : Same wr (wr.alloc (.cells #[.int .i64 0, .int .i64 aK, .int .i64 an, .slice aA am ac] 35)).drew := ((Keep.refl _ _).alloc _).drew
            have hBd := hid (show Blk (wr.alloc (.cells #[.int .i64 0, .int .i64 aK, .int .i64 an, .slice aA am ac] 35)).drew wr.heap.size 35 #[.int .i64 0, .int .i64 aK, .int .i64 an, .slice aA am ac] from hB)
            have HK0 := hid (HT.out.k.then hka)
            have HGa := hid (HT.out.a.keep hka (fun f => f))
            have HGb := hid (HT.out.b.keep hka (fun f => f))
            have hS0 : Hid ((wr.alloc (.cells #[.int .i64 0, .int .i64 aK, .int .i64 an, .slice aA am ac] 35)).drew.cell? ⟨wr.heap.size, 2, none⟩ = some (.int .i64 an)) := hBd.out.at_ 2
            clear hB hka
            go_wp2
            go_region_held3 (fun w' => w'.cell? ⟨wr.heap.size, 2, none⟩ = some (.int .i64 an))
              (first | exact hS0 | exact hS1 | exact hS2 | go_keep)
              (first
                | (go_at_call 12
                   refine (intn_any _ _ t an HGa.out HOk.out.n1).mono ?_
                   rintro e w1 ⟨rfl, hg1, hk1⟩
                   have hB1 := hBd.out.keep hk1 (by omega)
                   have hS1 : Hid (w1.cell? ⟨wr.heap.size, 2, none⟩ = some (.int .i64 an)) := hB1.at_ 2
                   have HGb1 := hid (HGb.out.keep hk1 (by omega))
                   have HK1 := hid hk1
                   have HG1 := hid hg1
                   have HB1 := hid hB1
                   clear hk1 hg1 hB1)
                | (go_at_call 13
                   refine (roll_any _ _ t an HGb1.out HOk.out.n1).mono ?_
                   rintro e w2 ⟨rfl, hg2, hk2⟩
                   have hB2 := HB1.out.keep hk2 (by omega)
                   have hS2 : Hid (w2.cell? ⟨wr.heap.size, 2, none⟩ = some (.int .i64 an)) := hB2.at_ 2
                   have HK2 := hid hk2
                   have HG2 := hid hg2
                   clear hk2 hg2 hB2))
            all_goals
              have HTn := hid (show Two w w2 (aft an t) from ⟨HG1.out.keep HK2.out (by omega), HG2.out, ((HK0.out.trans HK1.out (fun i hi h => by omega)).trans HK2.out (fun i hi h => by omega))⟩)
              clear HK1 HK2 HG1 HG2 HGb1
              go_wp2
              go_roundw
              case rel => exact ⟨k + 1, _, by omega, by go_num, HTn.out⟩
              case measure => simp [RowKit.intOf]; omega
          · by_cases hk1 : ak = 1
            · subst hk1
              have hB := Blk.made wr 35 #[.int .i64 1, .int .i64 aK, .int .i64 an, .slice aA am ac]
              have hka : Same wr (wr.alloc (.cells #[.int .i64 1, .int .i64 aK, .int .i64 an, .slice aA am ac] 35)).drew := ((Keep.refl _ _).alloc _).drew
              have hBd := hid (show Blk (wr.alloc (.cells #[.int .i64 1, .int .i64 aK, .int .i64 an, .slice aA am ac] 35)).drew wr.heap.size 35 #[.int .i64 1, .int .i64 aK, .int .i64 an, .slice aA am ac] from hB)
              have HK0 := hid (HT.out.k.then hka)
              have HGa := hid (HT.out.a.keep hka (fun f => f))
              have HGb := hid (HT.out.b.keep hka (fun f => f))
              have hS0 : Hid ((wr.alloc (.cells #[.int .i64 1, .int .i64 aK, .int .i64 an, .slice aA am ac] 35)).drew.cell? ⟨wr.heap.size, 1, none⟩ = some (.int .i64 aK) ∧ (wr.alloc (.cells #[.int .i64 1, .int .i64 aK, .int .i64 an, .slice aA am ac] 35)).drew.cell? ⟨wr.heap.size, 2, none⟩ = some (.int .i64 an)) := ⟨hBd.out.at_ 1, hBd.out.at_ 2⟩
              clear hB hka
              go_wp2
              go_region_held3 (fun w' => w'.cell? ⟨wr.heap.size, 1, none⟩ = some (.int .i64 aK) ∧ w'.cell? ⟨wr.heap.size, 2, none⟩ = some (.int .i64 an))
                (first | exact hS0 | exact hS1 | exact hS2 | go_keep)
                (first
                  | (go_at_call 14
                     refine (chance_any _ _ t aK an HGa.out HOk.out.n1).mono ?_
                     rintro e w1 ⟨rfl, hg1, hk1⟩
                     have hB1 := hBd.out.keep hk1 (by omega)
                     have hS1 : Hid (w1.cell? ⟨wr.heap.size, 1, none⟩ = some (.int .i64 aK) ∧ w1.cell? ⟨wr.heap.size, 2, none⟩ = some (.int .i64 an)) := ⟨hB1.at_ 1, hB1.at_ 2⟩
                     have HGb1 := hid (HGb.out.keep hk1 (by omega))
                     have HK1 := hid hk1
                     have HG1 := hid hg1
                     have HB1 := hid hB1
                     clear hk1 hg1 hB1)
                  | (go_at_call 15
                     refine (dchance_any _ _ t aK an HGb1.out HOk.out.n1).mono ?_
                     rintro e w2 ⟨rfl, hg2, hk2⟩
                     have hB2 := HB1.out.keep hk2 (by omega)
                     have hS2 : Hid (w2.cell? ⟨wr.heap.size, 1, none⟩ = some (.int .i64 aK) ∧ w2.cell? ⟨wr.heap.size, 2, none⟩ = some (.int .i64 an)) := ⟨hB2.at_ 1, hB2.at_ 2⟩
                     have HK2 := hid hk2
                     have HG2 := hid hg2
                     clear hk2 hg2 hB2))
              all_goals
                have HTn := hid (show Two w w2 (aft an t) from ⟨HG1.out.keep HK2.out (by omega), HG2.out, ((HK0.out.trans HK1.out (fun i hi h => by omega)).trans HK2.out (fun i hi h => by omega))⟩)
                clear HK1 HK2 HG1 HG2 HGb1
                go_wp2
                go_roundw
                case rel => exact ⟨k + 1, _, by omega, by go_num, HTn.out⟩
                case measure => simp [RowKit.intOf]; omega
            · have _tk := True.intro
              have hB := Blk.made wr 35 #[.int .i64 ak, .int .i64 aK, .int .i64 an, .slice aA am ac]
              have hka : Same wr (wr.alloc (.cells #[.int .i64 ak, .int .i64 aK, .int .i64 an, .slice aA am ac] 35)).drew := ((Keep.refl _ _).alloc _).drew
              have hBd := hid (show Blk (wr.alloc (.cells #[.int .i64 ak, .int .i64 aK, .int .i64 an, .slice aA am ac] 35)).drew wr.heap.size 35 #[.int .i64 ak, .int .i64 aK, .int .i64 an, .slice aA am ac] from hB)
              have HK0 := hid (HT.out.k.then hka)
              have HGa := hid (HT.out.a.keep hka (fun f => f))
              have HGb := hid (HT.out.b.keep hka (fun f => f))
              have hS0 : Hid ((wr.alloc (.cells #[.int .i64 ak, .int .i64 aK, .int .i64 an, .slice aA am ac] 35)).drew.cell? ⟨wr.heap.size, 3, none⟩ = some (.slice aA am ac)) := hBd.out.at_ 3
              have e0 : (ak == 0) = false := by simpa using hk0
              have e1 : (ak == 1) = false := by simpa using hk1
              have HW := hid (HOk.out.ws.old.keep HK0.out (fun i _ f => f.elim))
              clear hk0 hk1
              clear hB hka
              go_wp2
              go_region_held3 (fun w' => w'.cell? ⟨wr.heap.size, 3, none⟩ = some (.slice aA am ac))
                (first | exact hS0 | exact hS1 | exact hS2 | go_keep)
                (first
                  | (go_at_call 11
                     refine (pick_any _ _ t aA am ac aws HGa.out hm' (fun i => w.heap.size ≤ i) (Nat.le_refl _) HW.out).mono ?_
                     rintro e w1 ⟨rfl, hg1, hk1⟩
                     have hB1 := hBd.out.keep hk1 (by omega)
                     have hS1 : Hid (w1.cell? ⟨wr.heap.size, 3, none⟩ = some (.slice aA am ac)) := hB1.at_ 3
                     have HGb1 := hid (HGb.out.keep hk1 (by omega))
                     have HK1 := hid hk1
                     have HG1 := hid hg1
                     have HB1 := hid hB1
                     clear hk1 hg1 hB1)
                  | (go_at_call 16
                     refine (dpick_any _ _ t aA am ac aws HGb1.out hm' (fun i => w.heap.size ≤ i) (by omega) (HW.out.keep HK1.out (fun i _ h => by omega))).mono ?_
                     rintro e w2 ⟨rfl, hg2, hk2⟩
                     have hB2 := HB1.out.keep hk2 (by omega)
                     have hS2 : Hid (w2.cell? ⟨wr.heap.size, 3, none⟩ = some (.slice aA am ac)) := hB2.at_ 3
                     have HK2 := hid hk2
                     have HG2 := hid hg2
                     clear hk2 hg2 hB2))
              all_goals
                have HTn := hid (show Two w w2 (pickA aws t) from ⟨HG1.out.keep HK2.out (by omega), HG2.out, ((HK0.out.trans HK1.out (fun i hi h => by omega)).trans HK2.out (fun i hi h => by omega))⟩)
                clear HK1 HK2 HG1 HG2 HGb1
                go_wp2
                go_roundw
                case rel => exact ⟨k + 1, _, by omega, by go_num, HTn.out⟩
                case measure => simp [RowKit.intOf]; omega
      · go_wp2_with (go_at_call 9; refine (awake_any _).mono ?_; rintro e w' ⟨rfl, hk⟩)
        go_ret
        exact ⟨rfl, hT.k.then hk⟩
end Go.Proofs.Ytnejacmmbfeneaa

import Derived.Test.YtmkcphhgimlkgaaDiA
import Derived.Test.YtmkcphhgimlkgaaConfG
import Derived.Test.YtmkcphhgimlkgaaStep
import Derived.Deep.Cut
import Derived.Lib.SliceRun
namespace Go.Proofs.Ytmkcphhgimlkgaa
open Go.RowKit

theorem clone_ints (w : World) (b off n cp : Nat) (l : List Int) (h : Sl w (fun _ => False) 1 (some ⟨b, off, none⟩) n (icellsC l)) (hn : n ≤ 4096) :
    Calls Try.prog 47 #[.slice (some ⟨b, off, none⟩) n cp] w fun e w' => ∃ A c', e = .returned (.slice A n c') ∧ Sl w' (· < w.heap.size) 1 A n (icellsC l) ∧ Same w w' := by
  have q22 := fun (w : World) (a : Option Addr) (n c n' c' : Nat) => Lib.run_eql_slice_nil (P := Try.prog) w _ _ a n c n' c' Try.underlying22
  have hK0 : Same w (w.alloc (.cells #[] 3)) := (Keep.refl _ _).alloc _
  have hl := h.len
  go_enter Try.func47, Try.ntmps47
  go_wp2_with (
    at_builtin
    refine E24.law (.tmp 5) (.tmp 6) (.slice (some ⟨w.heap.size, 0, none⟩) 0 0) (some ⟨b, off, none⟩) n cp rfl rfl rfl rfl w.heap.size 0 [] (icellsC l) (Own.lit0 w _ 1) hl (h.src hK0) (ints_one l) (by omega) (by unfold maxLen; omega) (by simp) ?_
    intro A' c' w1 hown hg)
  go_ret
  simp only [Nat.zero_add, List.nil_append] at hown ⊢
  exact ⟨A', c', rfl, hown.sl (fun g hg => by omega), hK0.app (Own.lit0 w _ 1) hg (fun g h1 h2 => by omega)⟩

/-! ## What a valid configuration holds -/
theorem vnum_all {c : CF} (h : vnum c = 0) : VB4 c ∧ disB c = true ∧ edgesB c = true ∧ unitsB c = true ∧ plansB c.pla = true ∧ parB c = true := by
  have h4 : VB4 c := by
    by_cases k1 : 1 ≤ c.cen ∧ c.cen ≤ 9
    · by_cases k3 : 1 ≤ (c.dis.length : Int) ∧ (c.dis.length : Int) ≤ 4096
      · exact ⟨k1.1, k1.2, k3.1, k3.2⟩
      · have := vnum2 k1.1 k1.2 (c := c) (by omega); omega
    · have := vnum1 (c := c) (by omega); omega
  cases h3 : disB c
  · have := vnum3 h4 h3; omega
  · cases h5 : edgesB c
    · have := vnum4 h4 h3 h5; omega
    · cases h6 : unitsB c
      · have := vnum5 h4 h3 h5 h6; omega
      · cases h7 : plansB c.pla
        · have := vnum6 h4 h3 h5 h6 h7; omega
        · cases h8 : parB c
          · have := vnum7 h4 h3 h5 h6 h7 h8; omega
          · exact ⟨h4, rfl, rfl, rfl, rfl, rfl⟩
theorem vnum_dur {c : CF} (h : vnum c = 0) : vL c.h3 = true := by
  have h8 := (vnum_all h).2.2.2.2.2
  rw [parB, List.all_eq_true] at h8
  have := h8 (1, 1048576, c.h3) (by simp [parsL])
  simpa [rngB, vL] using this
/-- the leases of a new map -/
def cents (n : Nat) : List Int := (List.range n).map Int.ofNat
def initL (n : Nat) (dur : Int) : List St := (cents n).map (mkSt dur)
theorem cents_len (n : Nat) : (cents n).length = n := by simp [cents]
theorem cents_vH {n : Nat} (h : n ≤ 9) : (cents n).all vH = true := by
  rw [List.all_eq_true]
  intro x hx
  simp only [cents, List.mem_map, List.mem_range] at hx
  obtain ⟨k, hk, rfl⟩ := hx
  simp [vH]
  omega
theorem cents_get {n k : Nat} (h : k < n) : (cents n)[k]? = some (k : Int) := by simp [cents, h]
theorem cents_snoc (k : Nat) : cents (k + 1) = cents k ++ [(k : Int)] := by simp [cents, List.range_succ]
theorem init_len (n : Nat) (dur : Int) : (initL n dur).length = n := by simp [initL, cents_len]
theorem init_ok {n : Nat} {dur : Int} (h1 : 1 ≤ n) (h9 : n ≤ 9) (hd : vL dur = true) : OkL n dur (initL n dur) := by
  have hd2 := vL_in hd
  refine ⟨by rw [init_len], by omega, by omega, hd, ?_⟩
  intro s hs
  simp only [initL, cents, List.mem_map, List.mem_range] at hs
  obtain ⟨x, ⟨k, hk, rfl⟩, rfl⟩ := hs
  simp only [mkSt]
  have e : Int.ofNat k = (k : Int) := rfl
  omega
/-- the holders while they are written -/
def hold (n k : Nat) : List Value := icellsC (cents k) ++ List.replicate (n - k) (.int .i64 0)
theorem hold_zero (n : Nat) : (madeCells #[Value.int .i64 0] n) = (hold n 0).toArray := by
  rw [← Array.toList_inj, toList_madeCells_one]
  simp [hold, cents, icellsC]
theorem icells_len (l : List Int) : (icellsC l).length = l.length := by simp [icellsC]
theorem hold_len {n k : Nat} (h : k ≤ n) : (hold n k).length = n := by
  rw [hold, List.length_append, icells_len, cents_len, List.length_replicate]; omega
theorem hold_set {n k : Nat} (h : k < n) : (hold n k).set k (.int .i64 k) = hold n (k + 1) := by
  have e : n - k = (n - (k + 1)) + 1 := by omega
  rw [hold, hold, List.set_append_right _ _ (by rw [icells_len, cents_len]; omega), icells_len, cents_len, Nat.sub_self, e, List.replicate_succ, List.set_cons_zero, cents_snoc]
  simp [icellsC]
theorem hold_end (n : Nat) : hold n n = icellsC (cents n) := by simp [hold]
theorem hold_at {n k : Nat} (h : k < n) : ∃ v, (hold n k)[k]? = some v := get_some (by rw [hold_len (by omega)]; omega)

def DNewPost (w : World) (c : CF) (e : Ending) (w' : World) : Prop :=
  (vnum c = 0 ∧ ∃ mb tb sb A cp, e = .returned (.tuple #[.pointer (some ⟨mb, 0, none⟩), .int .i64 0]) ∧ w.heap.size ≤ mb ∧ w.heap.size ≤ tb ∧ w.heap.size ≤ sb ∧ DM w' mb tb sb A cp c (initL c.cen.toNat c.h3) ∧ Same w w' ∧ Sl w' (fun i => i = sb ∨ i < w.heap.size) 1 A c.dis.length (icellsC c.dis)) ∨
  (vnum c ≠ 0 ∧ e = .returned (.tuple #[.pointer none, .int .i64 1]) ∧ Same w w')

set_option maxRecDepth 100000 in
set_option maxHeartbeats 8000000 in
theorem dnew_any (w : World) (c : CF) (hm : CM w c) : Calls Try.prog 30 #[.agg c.cells.toArray] w (DNewPost w c) := by
  have hb0 := Blk.made w 27 c.cells.toArray
  have hw0 := (Keep.refl (fun _ => False) w).alloc (.cells c.cells.toArray 27)
  have HB := hid (fun W (hk : Same (w.alloc (.cells c.cells.toArray 27)) W) => cfc (hb0.keep (S := fun _ => False) hk (fun f => f)))
  have HW := hid hw0
  have HVA := hid (validate_any (w.alloc (.cells c.cells.toArray 27)) c (hm.same hw0))
  have HM := hid hm
  have hb1 := cfc hb0
  clear hb0 hw0 hm
  unfold DNewPost
  generalize hvn : vnum c = vn at *
  by_cases hv : vn = 0
  · subst hv
    have hdu := vnum_dur hvn
    obtain ⟨⟨n1, n9, d1, d2⟩, _⟩ := vnum_all hvn
    have HVN := hid hvn
    clear hvn
    obtain ⟨cen, D, cD, dis, E, cE, edg, U, cU, uni, P, cP, pla, h0, h1, h2, h3, h4, h5, h6, h7, h8, h9⟩ := c
    simp only at n1 n9 d1 d2 hdu
    obtain ⟨n, rfl⟩ := Int.eq_ofNat_of_zero_le (show 0 ≤ cen by omega)
    obtain ⟨b, off, rfl, hlb, _, _⟩ := HM.out.dis.at_ (show 0 < dis.length by omega)
    have HDU := hid hdu
    have HIN := hid (init_ok (n := n) (dur := h3) (by omega) (by omega) hdu)
    obtain ⟨c0, c1, c2, c3, c4, c5, c6, c7, c8, c9, c10, c11, c12, c13, c14, hg⟩ := hb1
    simp only [CF.cells] at *
    have hmk := fun W => E24.make .i64 .i64 n n (by omega) (by omega) (by omega) (by omega) W
    go_enter Try.func30, Try.ntmps30
    go_wp2_with fail
    (with_reducible refine HVA.out.mono ?_)
    rintro e w1 ⟨rfl, hs1⟩
    have HS1 := hid hs1
    clear c0 c1 c2 c3 c4 c5 c6 c7 c8 c9 c10 c11 c12 c13 c14
    obtain ⟨c0, c1, c2, c3, c4, c5, c6, c7, c8, c9, c10, c11, c12, c13, c14, hg1⟩ := HB.out _ hs1
    have HK1 := hid (HW.out.then hs1)
    clear hs1
    go_wp2_with fail
    go_loopw [16] (fun i wr => ∃ k : Nat, k ≤ n ∧ i = .int .i64 k ∧ Hid (Blk wr w1.heap.size 3 (hold n k).toArray ∧ Same w1 wr)) (fun i _ => n - (intOf i).toNat)
    case atStart =>
      refine ⟨0, by omega, rfl, hid ⟨?_, (Keep.refl _ _).alloc _⟩⟩
      have := Blk.made w1 3 (madeCells #[.int .i64 0] n)
      rw [hold_zero] at this
      rw [hold_zero]
      exact this
    case round =>
      obtain ⟨k, hk, rfl, HI⟩ := hrel
      by_cases hlt : k < n
      · obtain ⟨v, hv⟩ := hold_at hlt
        have q1 := HI.out.1.at_ k
        rw [List.getElem?_toArray, hv] at q1
        have q2 := HI.out.1.free k
        have hk1 : (k : Int) < (n : Int) := by omega
        have HV := hid (hold_set hlt)
        clear hv
        go_wp2_with fail
        go_roundw
        case rel =>
          refine ⟨k + 1, by omega, by go_num, hid ⟨?_, HI.out.2.setCell (fun h => absurd h (by simp)) _⟩⟩
          have := HI.out.1.put k (.int .i64 k)
          rw [List.setIfInBounds_toArray, HV.out] at this
          exact this
        case measure => simp [intOf]; omega
      · obtain rfl : k = n := by omega
        have hB := HI.out.1
        rw [hold_end] at hB
        have hK2 := HI.out.2
        have HN := hid (new_any wr (some ⟨w1.heap.size, 0, none⟩) k k (cents k) h3 (fun _ => False) (by
          have := Sl.of_blk (Av := fun _ => False) (size := 1) (n := k) hB (by simp [icells_len, cents_len]) (fun f => f)
          simpa [icellsC] using this) (by omega) (by omega) HDU.out)
        have HK2 := hid (HK1.out.then hK2)
        have HCB := hid (fun W (hk : Same wr W) => HB.out W ((HS1.out.then hK2).then hk))
        obtain ⟨c0, c1, c2, c3, c4, c5, c6, c7, c8, c9, c10, c11, c12, c13, c14, hg1⟩ := HCB.out _ (Keep.refl _ _)
        clear hB hK2
        go_wp2_with fail
        (with_reducible refine HN.out.mono ?_)
        rintro e w3 (⟨_, tb, sb, rfl, hb1, hb2, hT, hk3⟩ | ⟨hno, _⟩)
        rotate_left 1
        · exact absurd (cents_vH (n := k) (by omega)) (by rw [hno]; decide)
        · have HT := hid hT
          have HK3 := hid (HK2.out.then hk3)
          have hsz : w.heap.size ≤ wr.heap.size := HK2.out.size
          have HH := hid (HCB.out _ hk3)
          have HCB3 := hid (fun W (hk : Same w3 W) => HCB.out W (hk3.then hk))
          have HCL := hid (fun W (hk : Same w3 W) => clone_ints W b off dis.length cD dis (HM.out.dis.same (HK3.out.then hk)) (by omega))
          clear c0 c1 c2 c3 c4 c5 c6 c7 c8 c9 c10 c11 c12 c13 c14 hT hk3
          obtain ⟨c0, c1, c2, c3, c4, c5, c6, c7, c8, c9, c10, c11, c12, c13, c14, hg1⟩ := HH.out
          simp only at c0 c1 c2 c3 c4 c5 c6 c7 c8 c9 c10 c11 c12 c13 c14
          clear c2 c3 c4 c5 c6 c7 c9 c10 c11 c12 c13 c14
          go_wp2_with fail
          go_region_held3 (fun W => W.cell? ⟨w.heap.size, 0, none⟩ = some (.int .i64 k) ∧ W.cell? ⟨w.heap.size, 1, none⟩ = some (.slice (some ⟨b, off, none⟩) dis.length cD) ∧ W.cell? ⟨w.heap.size, 8, none⟩ = some (.int .i64 h3))
            (first | with_reducible exact ⟨c0, c1, c8⟩ | with_reducible exact HS.out | go_keep)
            (first
              | (go_at_call 47
                 (with_reducible refine (HCL.out _ (by first | with_reducible exact Keep.refl _ _ | with_reducible exact (Keep.refl _ _).drew)).mono ?_)
                 rintro e w4 ⟨A4, c4, rfl, hsl, hk4⟩
                 have hk5 : Same w3 w4 := by first | with_reducible exact hk4 | with_reducible exact (Keep.refl _ _).drew.then hk4
                 have HK4 := hid hk5
                 have HSL : Hid (Sl w4 (· < w3.heap.size) 1 A4 dis.length (icellsC dis)) := hid hsl
                 have HC4 := HCB3.out _ hk5
                 have HS := hid (show w4.cell? ⟨w.heap.size, 0, none⟩ = some (.int .i64 k) ∧ w4.cell? ⟨w.heap.size, 1, none⟩ = some (.slice (some ⟨b, off, none⟩) dis.length cD) ∧ w4.cell? ⟨w.heap.size, 8, none⟩ = some (.int .i64 h3) from ⟨HC4.c0, HC4.c1, HC4.c8⟩)
                 clear hsl hk4 hk5 HC4))
          all_goals
            go_wp2_with fail
            go_ret2
            have hsb3 := HT.out.row.lt
            have hK4 : Same w3 (w4.alloc (.cells #[.int .i64 k, .slice A4 dis.length c4, .int .i64 h3, .pointer (some ⟨tb, 0, none⟩)] 91)) := HK4.out.alloc _
            have hB4 := (Blk.made w4 91 #[.int .i64 k, .slice A4 dis.length c4, .int .i64 h3, .pointer (some ⟨tb, 0, none⟩)])
            have hs4 := HK4.out.size
            have hs3 := HK3.out.size
            refine .inl ⟨trivial, w4.heap.size, tb, sb, A4, c4, rfl, by omega, by omega, by omega, ⟨hB4, ?_, ?_, ?_⟩, ?_, ?_⟩
            · have := HSL.out.wide (Av' := (· = sb)) (fun i _ e => by subst e; exact hsb3)
              exact this.same ((Keep.refl _ _).alloc _)
            · have := HT.out.keep hK4 (fun f => f) (fun f => f)
              rw [Int.toNat_natCast]
              exact this
            · rw [Int.toNat_natCast]
              exact HIN.out
            · exact HK3.out.then hK4
            · have := HSL.out.wide (Av' := fun i => i = sb ∨ i < w.heap.size) (fun i _ e => by rcases e with e | e; exact (show i < w3.heap.size by omega); exact (show i < w3.heap.size by omega))
              exact this.same ((Keep.refl _ _).alloc _)
  · have hvn2 : (vn != 0) = true := by simp [hv]
    have HNV := hid hv
    clear hv hvn
    obtain ⟨cen, D, cD, dis, E, cE, edg, U, cU, uni, P, cP, pla, h0, h1, h2, h3, h4, h5, h6, h7, h8, h9⟩ := c
    obtain ⟨c0, c1, c2, c3, c4, c5, c6, c7, c8, c9, c10, c11, c12, c13, c14, hg⟩ := hb1
    simp only [CF.cells] at *
    go_enter Try.func30, Try.ntmps30
    go_wp2_with fail
    (with_reducible refine HVA.out.mono ?_)
    rintro e w1 ⟨rfl, hs1⟩
    have HS1 := hid hs1
    clear hs1
    go_wp2_with fail
    go_ret2
    exact .inr ⟨HNV.out, rfl, HW.out.then HS1.out⟩
end Go.Proofs.Ytmkcphhgimlkgaa

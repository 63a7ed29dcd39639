import Derived.Test.YtafpcffhkbeloaaDoorLoE
namespace Go.Proofs.YtafpcffhkbeloaaDoor
open Go.RowKit

/-! ## The reference's New, Told; the estimate's list -/
/-- a Spot by value: All, Where, L, Sure -/
def spotV (A : Option Addr) (na ca : Nat) (B : Option Addr) (nb cb : Nat) (X : Option Addr) (nx cx : Nat) (Y : Option Addr) (cy : Nat) : List Value := [.slice A na ca, .slice B nb cb, .slice X nx cx, .slice Y nx cy]
theorem spotV_one (A : Option Addr) (na ca : Nat) (B : Option Addr) (nb cb : Nat) (X : Option Addr) (nx cx : Nat) (Y : Option Addr) (cy : Nat) : ∀ u ∈ spotV A na ca B nb cb X nx cx Y cy, u.oneCell' = true := by
  intro u hu
  simp only [spotV, List.mem_cons, List.not_mem_nil, or_false] at hu
  rcases hu with rfl | rfl | rfl | rfl <;> rfl
def RNewPost (w : World) (l : List Int) (e : Ending) (w' : World) : Prop :=
  (setL l = [] ∧ e = .returned (.tuple #[.agg (spotV none 0 0 none 0 0 none 0 0 none 0).toArray, .int .i64 1]) ∧ Same w w') ∨
  (setL l ≠ [] ∧ ∃ A c, e = .returned (.tuple #[.agg (spotV A (setL l).length c A (setL l).length c none 0 0 none 0).toArray, .int .i64 0]) ∧ Sl w' (· < w.heap.size) 1 A (setL l).length (icells (setL l)) ∧ Same w w')
set_option maxRecDepth 100000 in
set_option maxHeartbeats 4000000 in
theorem rnew_any (w : World) (Av : Nat → Prop) (A : Option Addr) (c : Nat) (l : List Int) (hl : Sl w Av 1 A l.length (icells l)) (hn : l.length ≤ 1000) :
    Calls Tryd.prog 13 #[.slice A l.length c] w (RNewPost w l) := by
  have hk : Same w (w.alloc (.cells #[.slice none 0 0, .slice none 0 0, .slice none 0 0, .slice none 0 0] 36)) := (Keep.refl _ _).alloc _
  have ha := Blk.made w 36 #[.slice none 0 0, .slice none 0 0, .slice none 0 0, .slice none 0 0]
  go_enter Tryd.func13, Tryd.ntmps13
  go_upto_region 1 with fail
  generalize (w.alloc (.cells #[.slice none 0 0, .slice none 0 0, .slice none 0 0, .slice none 0 0] 36)) = w1 at *
  have HA := hid ha
  have HK := hid hk
  have HST := hid (set_any w1 Av A c l (hl.same hk) hn)
  have hL := setL_len l l.length (Nat.le_refl _)
  rw [List.take_of_length_le (Nat.le_refl _)] at hL
  unfold RNewPost
  clear ha hl
  unfold IntsPost at HST
  have HKZ := hid hk.size
  obtain ⟨L, hSL⟩ : ∃ L, setL l = L := ⟨_, rfl⟩
  rw [hSL] at HST hL
  have HSL := hid hSL
  clear hSL
  go_wp2_with fail
  (with_reducible refine HST.out.mono ?_)
  rintro e w3 ⟨B, d, rfl, hs3, hk3⟩
  have HK3 := hid (HK.out.then hk3)
  have HA3 := hid (HA.out.keep hk3 (fun f => f))
  have HS3 := hid hs3
  clear hk3 hs3
  cases L with
  | nil =>
    go_wp2_with (refine wpList_store_row rfl _ (.tmp 2) (.tmp 10) rfl w.heap.size #[.slice none 0 0, .slice none 0 0, .slice none 0 0, .slice none 0 0] rfl rfl _ _ HA3.out (by kernel_rfl) rfl (by simp [Value.oneCell']) ?_)
    refine bodyPost_ret (results_cell_tmp rfl _ _ _ _ _ _ _ _ rfl rfl (Blk.row HA3.out _) Tryd.underlying36 rfl (by kernel_rfl)) rfl ?_
    exact .inl ⟨HSL.out, rfl, HK3.out.trans (Keep.row _ _ _) (fun i hi e => by have e2 : i = w.heap.size := e; omega)⟩
  | cons y L =>
    have hne : (((y :: L).length : Int) == 0) = false := by rw [beq_eq_false_iff_ne]; simp; omega
    have HNE := hid (show y :: L ≠ [] from by simp)
    generalize hLL : y :: L = LL at *
    clear hLL hL
    go_wp2_with (refine wpList_store_row rfl _ (.tmp 2) (.tmp 13) rfl w.heap.size #[.slice B LL.length d, .slice B LL.length d, .slice none 0 0, .slice none 0 0] rfl rfl _ _ HA3.out (by kernel_rfl) rfl (by simp [Value.oneCell']) ?_)
    refine bodyPost_ret (results_cell_tmp rfl _ _ _ _ _ _ _ _ rfl rfl (Blk.row HA3.out _) Tryd.underlying36 rfl (by kernel_rfl)) rfl ?_
    unfold RNewPost
    rw [HSL.out]
    refine .inr ⟨HNE.out, B, d, rfl, ?_, HK3.out.trans (Keep.row _ _ _) (fun i hi e => by have e2 : i = w.heap.size := e; omega)⟩
    have h1 := Sl.keep HS3.out (Keep.row w3 w.heap.size #[.slice B LL.length d, .slice B LL.length d, .slice none 0 0, .slice none 0 0]) (fun i hi e => by have e2 : i = w.heap.size := e; have := Blk.lt HA.out; show i < w1.heap.size; omega)
    exact h1.wide (fun i hi e => by have e2 : i < w.heap.size := e; have := HKZ.out; show i < w1.heap.size; omega)

theorem ESrc : Elem Tryd.prog 23 40 2 32 (.agg #[.int .i64 0, .slice none 0 0]) := ⟨Tryd.underlying23, by kernel_rfl, rfl, by decide⟩
def bcells (l : List Bool) : List Value := l.map Value.bool
def told (l : List Ad) (b : Bool) : List Sr := (l.filter (fun a => a.ok == b)).map Ad.s
theorem told_snoc {l : List Ad} {k : Nat} {a : Ad} (b : Bool) (h : l[k]? = some a) : told (l.take (k + 1)) b = told (l.take k) b ++ (if a.ok = b then [a.s] else []) := by
  rw [take_snoc' h, told, told, List.filter_append, List.map_append]
  by_cases hp : a.ok = b <;> simp [hp]
theorem told_len (l : List Ad) (b : Bool) (k : Nat) : (told (l.take k) b).length ≤ k := by
  rw [told, List.length_map]
  have := List.length_filter_le (fun a : Ad => a.ok == b) (l.take k)
  rw [List.length_take] at this; omega
theorem src_one (s : Sr) : ∀ u ∈ s.cells, u.oneCell' = true := by
  intro u hu
  simp only [Sr.cells, List.mem_cons, List.not_mem_nil, or_false] at hu
  rcases hu with rfl | rfl <;> rfl
def ToldPost (w : World) (Av : Nat → Prop) (l : List Sr) (e : Ending) (w' : World) : Prop := ∃ B d, e = .returned (.slice B l.length d) ∧ Srs w' Av B l ∧ Same w w'
set_option maxRecDepth 100000 in
set_option maxHeartbeats 4000000 in
theorem told_any (w : World) (Av : Nat → Prop) (hAv : ∀ i, Av i → i < w.heap.size) (A : Option Addr) (na ca : Nat) (B : Option Addr) (nb cb : Nat) (X : Option Addr) (cx : Nat) (Y : Option Addr) (cy : Nat) (l : List Ad)
    (hX : Srs w Av X (l.map Ad.s)) (hY : Sl w Av 1 Y l.length (bcells (l.map Ad.ok))) (hn : l.length ≤ 1000) (b : Bool) :
    Calls Tryd.prog 41 #[.agg (spotV A na ca B nb cb X l.length cx Y cy).toArray, .bool b] w (ToldPost w Av (told l b)) := by
  have hk : Same w (w.alloc (.cells (spotV A na ca B nb cb X l.length cx Y cy).toArray 36)) := (Keep.refl _ _).alloc _
  have ha := Blk.made w 36 (spotV A na ca B nb cb X l.length cx Y cy).toArray
  go_enter Tryd.func41, Tryd.ntmps41
  go_upto_region 1 with fail
  generalize hw1 : (w.alloc (.cells (spotV A na ca B nb cb X l.length cx Y cy).toArray 36)) = w1 at *
  have HA := hid (fun W (hk : Same w1 W) => ha.keep (S := fun _ => False) hk (fun f => f))
  have HK := hid hk
  have HX := hid (fun W (hk2 : Same w1 W) => (hX.same hk).same hk2)
  have HY := hid (fun W (hk2 : Same w1 W) => (hY.same hk).same hk2)
  have HAV := hid hAv
  have hz := hk.size
  clear ha hX hY hw1 hk
  go_wp2_with fail
  go_loopw [5, 6] (fun v i wr => ∃ (k : Nat) (D : Option Addr) (d : Nat), k ≤ l.length ∧ i = .int .i64 k ∧ v = .slice D (told (l.take k) b).length d ∧ Hid (Own wr w1.heap.size 40 2 (.slice D (told (l.take k) b).length d) (told (l.take k) b).length (srcells (told (l.take k) b)) ∧ Same w1 wr ∧ ∀ s ∈ told (l.take k) b, SrOk w1 Av s ∧ s.ns.length ≤ 140737488355328)) (fun _ i _ => l.length - (RowKit.intOf i).toNat)
  case atStart => exact ⟨0, none, 0, by omega, rfl, rfl, hid ⟨Own.nil _ _ _ _, Keep.refl _ _, fun s hs => by simp [told] at hs⟩⟩
  case round =>
    obtain ⟨k, D, d, hk, rfl, rfl, HI⟩ := hrel
    have x2 : wr.cell? ⟨w.heap.size, 2, none⟩ = some (.slice X l.length cx) := (HA.out wr HI.out.2.1).at_ 2
    have x3 : wr.cell? ⟨w.heap.size, 3, none⟩ = some (.slice Y l.length cy) := (HA.out wr HI.out.2.1).at_ 3
    by_cases hlt : k < l.length
    · obtain ⟨a, hka⟩ := get_some hlt
      have hk1 : (k : Int) < (l.length : Int) := by omega
      have hks : (l.map Ad.s)[k]? = some a.s := by simp [hka]
      obtain ⟨b1, o1, hXe, hb1, hrow, _, _, hso, hs47⟩ := (HX.out wr HI.out.2.1).at_ hks
      obtain ⟨b2, o2, hYe, _, _, hrw⟩ := (HY.out wr HI.out.2.1).at_ (by omega)
      have q2 : wr.cell? ⟨b2, o2 + k, none⟩ = some (.bool a.ok) := hrw k _ (by simp [bcells, hka])
      rw [hXe] at x2
      rw [hYe] at x3
      have HRW := hid hrow
      have hle := told_len l b k
      have HSN := hid (told_snoc b hka)
      have HSO := hid (show SrOk w1 Av a.s ∧ a.s.ns.length ≤ 140737488355328 from ((HX.out w1 (Keep.refl _ _)).each a.s (List.mem_of_getElem? hks)))
      have hsz := HI.out.2.1.size
      clear hrow hrw hka hks hso hXe hYe
      generalize told (l.take k) b = F at *
      by_cases hq : a.ok = b
      · have HQ := hid hq
        rw [if_pos hq] at HSN
        have hq2 : (a.ok == b) = true := by simp [hq]
        clear hq
        go_wp2_with (first
          | (refine wpList_load_mid rfl _ (.tmp 25) rfl _ _ rfl [.int .i64 a.s.kd, .slice a.s.A a.s.ns.length a.s.c] _ HRW.out Tryd.underlying40 rfl (by kernel_rfl) ?_)
          | (at_builtin; refine ESrc.law (.tmp 21) (.tmp 27) (.slice D F.length d) (some ⟨wr.heap.size, 0, none⟩) 1 1 rfl rfl rfl rfl w1.heap.size F.length _ a.s.cells (HI.out.1.keep ((Keep.refl (fun _ => False) wr).alloc _) (fun _ _ _ f => f)) rfl (fun _ => ⟨_, rfl, src_new rfl⟩) (src_one a.s) (by omega) (by unfold maxLen; omega) (by first | omega | (simp; omega)) ?_; intro A' c' w7 hown hg; have HOW := hid hown; have HG := hid hg; clear hown hg))
        go_roundw
        case rel =>
          refine ⟨k + 1, A', c', by omega, by go_num, by rw [HSN.out]; simp, hid ?_⟩
          rw [HSN.out, srcells_snoc]
          refine ⟨by simpa using HOW.out, (HI.out.2.1.alloc _).grown HG.out (fun g e hl => by have := HI.out.1.block g e; omega), fun s hs => ?_⟩
          rw [List.mem_append] at hs
          rcases hs with hs | hs
          · exact HI.out.2.2 s hs
          · rw [List.mem_singleton.1 hs]; exact HSO.out
        case measure => simp [RowKit.intOf]; omega
      · rw [if_neg hq, List.append_nil] at HSN
        have hq2 : (a.ok == b) = false := by simp [hq]
        clear hq
        go_wp2_with fail
        go_roundw
        case rel => exact ⟨k + 1, D, d, by omega, by go_num, by rw [HSN.out], hid (by rw [HSN.out]; exact HI.out)⟩
        case measure => simp [RowKit.intOf]; omega
    · obtain rfl : k = l.length := by omega
      have hI := HI.out
      rw [List.take_of_length_le (Nat.le_refl _)] at hI ⊢
      have HI2 := hid hI
      clear hI
      go_wp2_with fail
      go_ret
      refine ⟨D, d, rfl, ⟨HI2.out.1.sl (fun g hg hav => by have := HAV.out g hav; omega), fun s hs => ?_⟩, HK.out.then HI2.out.2.1⟩
      obtain ⟨h1, h2⟩ := HI2.out.2.2 s hs
      exact ⟨Sl.same h1 HI2.out.2.1, h2⟩
end Go.Proofs.YtafpcffhkbeloaaDoor

import Derived.Test.YtmkcphhgimlkgaaLeA
namespace Go.Proofs.Ytmkcphhgimlkgaa
open Go.RowKit

theorem E62 : Elem Try.prog 100 104 4 32 (.agg #[.int .i64 0, .int .i64 0, .int .i64 0, .bool false]) := ⟨Try.underlying100, by kernel_rfl, rfl, by decide⟩

def mkSt (len h : Int) : St := ⟨h, 1, len, false⟩
def zSt : St := ⟨0, 0, 0, false⟩
def tab (hs : List Int) (len : Int) (k : Nat) : List St := (hs.take k).map (mkSt len) ++ List.replicate (hs.length - k) zSt

theorem tab_len (hs : List Int) (len : Int) (k : Nat) (hk : k ≤ hs.length) : (tab hs len k).length = hs.length := by
  simp [tab]; omega
theorem tab_set {hs : List Int} {len h : Int} {k : Nat} (hk : hs[k]? = some h) : (tab hs len k).set k (mkSt len h) = tab hs len (k + 1) := by
  have hl := (List.getElem?_eq_some_iff.1 hk).1
  have e : hs.length - k = (hs.length - (k + 1)) + 1 := by omega
  have hl : ((hs.take k).map (mkSt len)).length = k := by simp; omega
  rw [tab, tab, List.set_append_right _ _ (by omega), hl, Nat.sub_self, e, List.replicate_succ, List.set_cons_zero, take_snoc hk]
  simp only [List.map_append, List.map_cons, List.map_nil, List.append_assoc, List.cons_append, List.nil_append]
theorem tab_zero (hs : List Int) (len : Int) : stFlat (tab hs len 0) = (madeCells #[.int .i64 0, .int .i64 0, .int .i64 0, .bool false] (hs.length * 4)).toList := by
  simp only [tab, List.take_zero, List.map_nil, List.nil_append, Nat.sub_zero]
  generalize hs.length = n
  refine List.ext_getElem? fun i => ?_
  by_cases hi : i < n * 4
  · have h1 := stFlat_get (List.replicate n zSt) (i / 4) (i % 4) (by omega)
    have e : i / 4 * 4 + i % 4 = i := by omega
    have hl : i / 4 < n := by omega
    rw [e] at h1
    rw [h1]
    have hm := Nat.mod_lt i (show 0 < 4 by omega)
    simp only [madeCells, Array.getElem?_toList, Array.getElem?_map]
    rw [List.getElem?_replicate, if_pos hl]
    have hr : (Array.range (n * 4))[i]? = some i := by simp [hi]
    rw [hr]
    simp only [Option.bind_some, Option.map_some]
    generalize i % 4 = m at hm
    match m, hm with
    | 0, _ => rfl
    | 1, _ => rfl
    | 2, _ => rfl
    | 3, _ => rfl
  · rw [List.getElem?_eq_none (by rw [stFlat, flat_len St.cells 4 (fun _ => rfl)]; simp; omega), List.getElem?_eq_none (by simp [size_madeCells]; omega)]

/-- What New leaves. -/
def NewPost (w : World) (hs : List Int) (len : Int) (e : Ending) (w' : World) : Prop :=
  (hs.all vH = true ∧ ∃ tb sb, e = .returned (.tuple #[.pointer (some ⟨tb, 0, none⟩), .int .i64 0]) ∧ w.heap.size ≤ tb ∧ w.heap.size ≤ sb ∧ IsTable w' tb sb (hs.map (mkSt len)) ∧ Same w w') ∨
  (hs.all vH = false ∧ e = .returned (.tuple #[.pointer none, .int .i64 1]) ∧ Same w w')

set_option maxHeartbeats 1000000 in
theorem new_any (w : World) (A : Option Addr) (n c : Nat) (hs : List Int) (len : Int) (Av : Nat → Prop) (hA : Sl w Av 1 A n (hs.map (Value.int .i64))) (h1 : 1 ≤ n) (h2 : n ≤ 64) (h3 : vL len = true) :
    Calls Try.prog 46 #[.slice A n c, .int .i64 len] w (NewPost w hs len) := by
  have hn : hs.length = n := by simpa using hA.len
  obtain ⟨b, off, rfl, hb, _, hrow⟩ := hA.at_ (by omega)
  have hrow := hid hrow
  clear hA
  have hmk := fun W => E62.make .i64 .i64 n n (by omega) (by omega) (by omega) (by omega) W
  go_enter Try.func46, Try.ntmps46
  go_wp2_with (go_at_call 68; refine (vL_any _ _).mono ?_; rintro e w' ⟨rfl, rfl⟩)
  go_loopw [29] (fun i wr => ∃ k : Nat, k ≤ n ∧ i = .int .i64 k ∧ IsTable wr (w.heap.size + 1) w.heap.size (tab hs len k) ∧ Same w wr ∧ (hs.take k).all vH = true) (fun i _ => n - (intOf i).toNat)
  case atStart =>
    refine ⟨0, by omega, rfl, ⟨?_, ?_, by rw [tab_len _ _ _ (by omega)]; omega⟩, ((Keep.refl _ _).alloc _).alloc _, by simp⟩
    · rw [tab_len _ _ _ (by omega), hn]
      have := Blk.made (w.alloc (.cells (madeCells #[.int .i64 0, .int .i64 0, .int .i64 0, .bool false] (n * 4)) 104)) 102 #[.slice (some ⟨w.heap.size, 0, none⟩) n n]
      rw [World.size_alloc] at this
      exact this
    · have := (Blk.made w 104 (madeCells #[.int .i64 0, .int .i64 0, .int .i64 0, .bool false] (n * 4))).alloc (.cells #[.slice (some ⟨w.heap.size, 0, none⟩) n n] 102)
      rw [tab_zero, hn]
      exact this
  case round =>
    obtain ⟨k, hk, rfl, hT, hK, hV⟩ := hrel
    by_cases hkn : k < n
    · obtain ⟨h, hh⟩ : ∃ h, hs[k]? = some h := get_some (by omega)
      have hc : wr.cell? ⟨b, off + k, none⟩ = some (.int .i64 h) := (hK.cell (p := ⟨b, off + k, none⟩) hb (fun f => f)).trans (hrow.out k _ (by simp [hh]))
      have hsl := hT.sl
      rw [tab_len hs len k (by omega), hn] at hsl
      obtain ⟨s0, _, c0, c1, c2, c3⟩ := hT.at_ k (by rw [tab_len hs len k (by omega)]; omega)
      have f0 := hT.row.free (k*4)
      have f1 := hT.row.free (k*4+1)
      have f2 := hT.row.free (k*4+2)
      have f3 := hT.row.free (k*4+3)
      have Hh := hid hh
      have HT := hid hT
      have HV := hid hV
      clear hh hT hV
      by_cases hv : vH h = true
      · go_wp2_with (go_at_call 69; refine (vH_any _ _).mono ?_; rintro e w' ⟨rfl, rfl⟩)
        go_roundw
        case rel =>
          refine ⟨k + 1, by omega, by go_num, ?_, ?_, ?_⟩
          · rw [← tab_set Hh.out]
            exact HT.out.put4 k (mkSt len h) (by rw [tab_len _ _ _ (by omega)]; omega)
          · exact (((hK.setCell (fun hl => absurd hl (by simp)) _).setCell (fun hl => absurd hl (by simp)) _).setCell (fun hl => absurd hl (by simp)) _).setCell (fun hl => absurd hl (by simp)) _
          · rw [take_all Hh.out, HV.out, hv]; rfl
        case measure => simp [intOf]; omega
      · have hv' : vH h = false := by simpa using hv
        clear hv
        go_wp2_with (go_at_call 69; refine (vH_any _ _).mono ?_; rintro e w' ⟨rfl, rfl⟩)
        go_ret2
        exact .inr ⟨all_no Hh.out hv', rfl, hK⟩
    · obtain rfl : k = n := by omega
      have HT := hid hT
      have HV := hid hV
      clear hT hV
      go_wp2
      go_ret2
      refine .inl ⟨?_, w.heap.size + 1, w.heap.size, rfl, by omega, by omega, ?_, hK⟩
      · have := HV.out
        rwa [List.take_of_length_le (by omega)] at this
      · have := HT.out
        rw [tab, List.take_of_length_le (show hs.length ≤ k by omega), show hs.length - k = 0 by omega] at this
        simpa using this

/-! ## Last, Holder, Valid -/
theorem valid_any (u n : Int) (w : World) : Calls Try.prog 39 #[.int .i64 u, .int .i64 n] w fun e w' => e = .returned (.bool (decide (0 ≤ n) && decide (n ≤ u))) ∧ w = w' := by
  by_cases h : 0 ≤ n
  all_goals
    go_enter Try.func39, Try.ntmps39
    go_wp2
    go_ret
    first | (simp [h]; done) | (simp; omega)

def lastR (l : List St) (thing : Int) : Int × Int × Int :=
  if 0 ≤ thing then (match l[thing.toNat]? with | some s => (s.h, s.e, s.u) | none => (0, 0, 0)) else (0, 0, 0)

set_option maxHeartbeats 1000000 in
theorem last_any (w : World) (tb sb : Nat) (l : List St) (hT : IsTable w tb sb l) (thing : Int) :
    Calls Try.prog 26 #[.pointer (some ⟨tb, 0, none⟩), .int .i64 thing] w fun e w' =>
      e = .returned (.tuple #[.int .i64 (lastR l thing).1, .int .i64 (lastR l thing).2.1, .int .i64 (lastR l thing).2.2]) ∧ Same w w' := by
  have hsl := hT.sl
  have hs := hT.small
  unfold lastR
  by_cases h0 : 0 ≤ thing
  · rw [if_pos h0]
    obtain ⟨i, rfl⟩ := Int.eq_ofNat_of_zero_le h0
    simp only [Int.toNat_natCast]
    by_cases hi : i < l.length
    · obtain ⟨s, hls, c0, c1, c2, c3⟩ := hT.at_ i hi
      rw [hls]
      simp only
      clear hls hT
      generalize l.length = n at *
      go_enter Try.func26, Try.ntmps26
      go_wp2
      go_quiet (fail)
      go_wp2
      go_ret3
      exact ⟨rfl, ((Keep.refl _ _).alloc _).drewN _⟩
    · rw [List.getElem?_eq_none (by omega)]
      clear hT
      generalize l.length = n at *
      go_enter Try.func26, Try.ntmps26
      go_wp2
      go_ret3
      exact ⟨rfl, Keep.refl _ _⟩
  · rw [if_neg h0]
    clear hT
    go_enter Try.func26, Try.ntmps26
    go_wp2
    go_ret3
    exact ⟨rfl, Keep.refl _ _⟩

end Go.Proofs.Ytmkcphhgimlkgaa

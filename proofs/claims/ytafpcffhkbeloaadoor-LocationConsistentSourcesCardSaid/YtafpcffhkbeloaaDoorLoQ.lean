import Derived.Test.YtafpcffhkbeloaaDoorLoP
import Derived.Test.YtafpcffhkbeloaaDoorLoJ
import Derived.Test.YtafpcffhkbeloaaDoorLoK
namespace Go.Proofs.YtafpcffhkbeloaaDoor
open Go.RowKit

/-! ## Consistency: the plain law -/
theorem and_zero {a : List Nat} (h : OkW a) : andW zeroW a = zeroW := words_ext (andW_ok zeroW_ok h) zeroW_ok fun n hn => by rw [andW_mem zeroW_ok h n hn, zeroW_mem]; rfl
theorem con_zero (ks : List Ks) : conW zeroW ks = zeroW := by
  unfold conW
  induction ks with
  | nil => rfl
  | cons k ks ih => rw [List.foldl_cons, and_zero (ofW_ok _)]; exact ih
def goodK (k : Ks) : Bool := rightB k.1 k.2.length
/-- a run in which nothing is refused -/
theorem run_con : ∀ (ks : List Ks) (nodes : List Nat) (L : List (Ks × Bool)), OkW nodes → nodes ≠ zeroW → L.length + ks.length ≤ 64 → (∀ k ∈ ks, goodK k = true) →
    (tl (ks.foldl stepS (nodes, L)).2 false = [] ↔ tl L false = [] ∧ conW nodes ks ≠ zeroW) ∧ (conW nodes ks ≠ zeroW → (ks.foldl stepS (nodes, L)).1 = conW nodes ks)
  | [], nodes, L, _, hz, _, _ => ⟨⟨fun h => ⟨h, hz⟩, fun h => h.1⟩, fun _ => rfl⟩
  | k :: ks, nodes, L, hok, hz, hl, hg => by
    have hk : rightB k.1 k.2.length = true := hg k (by simp)
    have h1 : ¬ rightB k.1 k.2.length = false := by rw [hk]; simp
    have h2 : ¬ 64 ≤ L.length := by simp at hl; omega
    have hok2 := andW_ok hok (ofW_ok k.2)
    rw [List.foldl_cons]
    have hc : conW nodes (k :: ks) = conW (andW nodes (ofW k.2)) ks := rfl
    rw [hc]
    by_cases h3 : andW nodes (ofW k.2) = zeroW
    · have hs : stepS (nodes, L) k = (nodes, L ++ [(k, false)]) := by
        simp only [stepS, addS, if_neg h1, if_neg h2, if_pos h3]
      rw [hs, h3, con_zero]
      have ih := run_con ks nodes (L ++ [(k, false)]) hok hz (by simp at hl ⊢; omega) (fun k hk => hg k (by simp [hk]))
      refine ⟨⟨fun h => ?_, fun h => absurd rfl h.2⟩, fun h => absurd rfl h⟩
      have := (ih.1.1 h).1
      simp [tl] at this
    · have hs : stepS (nodes, L) k = (andW nodes (ofW k.2), L ++ [(k, true)]) := by
        by_cases h4 : andW nodes (ofW k.2) = nodes
        · simp only [stepS, addS, if_neg h1, if_neg h2, if_neg h3, if_pos h4]; rw [h4]
        · simp only [stepS, addS, if_neg h1, if_neg h2, if_neg h3, if_neg h4]
      rw [hs]
      have ih := run_con ks (andW nodes (ofW k.2)) (L ++ [(k, true)]) hok2 h3 (by simp at hl ⊢; omega) (fun k hk => hg k (by simp [hk]))
      have e : tl (L ++ [(k, true)]) false = tl L false := by simp [tl]
      rw [e] at ih
      exact ih
theorem conW_ok {a : List Nat} (h : OkW a) (ks : List Ks) : OkW (conW a ks) := by
  unfold conW
  induction ks generalizing a with
  | nil => exact h
  | cons k ks ih => exact ih (andW_ok h (ofW_ok _))
theorem agree_con (all : List Int) (ks : List Ks) : agreeL all ks = elemsI (conW (ofW all) ks) := by
  unfold agreeL conW
  rw [setL_eq]
  have : ∀ (ks : List Ks) (a : List Nat), OkW a → ks.foldl (fun a s => bothL a (setL s.2)) (elemsI a) = elemsI (ks.foldl (fun a s => andW a (ofW s.2)) a) := by
    intro ks
    induction ks with
    | nil => intro a _; simp only [List.foldl_nil]
    | cons k ks ih =>
      intro a h
      rw [List.foldl_cons, List.foldl_cons, setL_eq, both_eq h (ofW_ok _)]
      exact ih _ (andW_ok h (ofW_ok _))
  exact this ks (ofW all) (ofW_ok all)
theorem elems_pos {ws : List Nat} (h : OkW ws) : 0 < (elemsI ws).length ↔ ws ≠ zeroW := by
  rw [List.length_pos_iff]; exact not_congr (elemsI_nil h)
theorem tl_nil_len {F : List Sr} {L : List (Ks × Bool)} {b : Bool} (h : keys F = tl L b) : tl L b = [] ↔ F.length = 0 := by
  rw [← h, ← keys_len F, List.length_eq_zero_iff]
set_option maxRecDepth 100000 in
set_option maxHeartbeats 8000000 in
theorem consist_any (w : World) (hT : Tab w) (h0 : 0 < w.heap.size) (A : Option Addr) (c : Nat) (all : List Int) (ha : Sl w (fun _ => False) 1 A all.length (icells all)) (X : Option Addr) (cx : Nat) (l : List Sr) (hl : Srs w (fun _ => False) X l) (hlm : l.length ≤ maxLen) :
    Calls Tryd.prog 6 #[.slice A all.length c, .slice X l.length cx] w (TruePost w) := by
  have HWK := hid (wakes_any w hT h0)
  have HA := hid (fun W (hk2 : Same w W) => ha.same hk2)
  have HS := hid (fun W (hk2 : Same w W) => hl.same hk2)
  have HLM := hid hlm
  unfold TruePost
  clear hT h0 ha hl hlm
  go_enter Tryd.func6, Tryd.ntmps6
  go_wp2_with fail
  (with_reducible refine HWK.out.mono ?_)
  rintro e w1 ⟨rfl, hk1⟩
  have HK1 := hid hk1
  clear hk1 HWK
  by_cases h40 : (all.length : Int) > 40
  · go_wp2_with fail
    go_ret
    exact ⟨rfl, HK1.out⟩
  have h40' : (all.length : Int) ≤ 40 := by omega
  clear h40
  have HSM := hid (small_any w1 _ X cx l (HS.out _ HK1.out) HLM.out)
  obtain ⟨sb, hsb⟩ : ∃ b, b = smallB l := ⟨_, rfl⟩
  rw [← hsb] at HSM
  have HSB := hid hsb
  clear hsb
  cases sb with
  | false =>
    go_wp2_with ((with_reducible refine HSM.out.mono ?_); rintro e w2 ⟨rfl, rfl⟩)
    go_ret
    exact ⟨rfl, HK1.out⟩
  | true =>
  have HN := hid (small_bounds HSB.out.symm)
  by_cases h64 : (l.length : Int) > 64
  · go_wp2_with ((with_reducible refine HSM.out.mono ?_); rintro e w2 ⟨rfl, rfl⟩)
    go_ret
    exact ⟨rfl, HK1.out⟩
  have h64' : (l.length : Int) ≤ 64 := by omega
  clear h64
  have HAL := hid (show all.length ≤ 1000 from by omega)
  have HST := hid (set_any w1 _ A c all (HA.out _ HK1.out) HAL.out)
  unfold IntsPost at HST
  obtain ⟨L0, hL0⟩ : ∃ L, L = (setL all).length := ⟨_, rfl⟩
  rw [← hL0] at HST
  have HL0 := hid hL0
  clear hL0
  by_cases hz : L0 = 0
  · have hzi : ((L0 : Int) == 0) = true := by simp [hz]
    subst hz
    go_wp2_with (first | ((with_reducible refine HSM.out.mono ?_); rintro e w2 ⟨rfl, rfl⟩) | ((with_reducible refine HST.out.mono ?_); rintro e w2x ⟨B2, d2, rfl, _, hk2⟩; have HK2 := hid (HK1.out.then hk2); clear hk2))
    go_ret
    exact ⟨rfl, HK2.out⟩
  have hzi : ((L0 : Int) == 0) = false := by rw [beq_eq_false_iff_ne]; omega
  have HZ := hid (show ofW all ≠ zeroW from fun e => hz (by rw [HL0.out, setL_zero e]; rfl))
  clear hz
  go_upto_region 5 with (first | ((with_reducible refine HSM.out.mono ?_); rintro e w2x ⟨rfl, rfl⟩) | ((with_reducible refine HST.out.mono ?_); rintro e w2 ⟨B2, d2, rfl, _, hk2⟩; have HK2 := hid (HK1.out.then hk2); clear hk2))
  clear HSM HST hzi h40'
  go_wp2_with fail
  go_loopw [34] (fun i wr => ∃ (k : Nat), k ≤ l.length ∧ i = .int .i64 k ∧ Hid (Same w wr ∧ ∀ s ∈ l.take k, goodK s.key = true)) (fun i _ => l.length - (RowKit.intOf i).toNat)
  case atStart => exact ⟨0, by omega, rfl, hid ⟨HK2.out, by simp⟩⟩
  case round =>
    obtain ⟨k, hk, rfl, HI⟩ := hrel
    by_cases hlt : k < l.length
    · obtain ⟨s, hks⟩ := get_some hlt
      have hk1 : (k : Int) < (l.length : Int) := by omega
      obtain ⟨b1, o1, rfl, hbl, hrow, c0, c1, hso, _⟩ := Srs.at_ (HS.out wr HI.out.1) hks
      have HKS := hid hks
      clear hrow hks hso
      go_upto_region 8 with fail
      have ha := Blk.made wr 40 #[.int .i64 s.kd, .slice s.A s.ns.length s.c]
      have hka : Same wr (wr.alloc (.cells #[.int .i64 s.kd, .slice s.A s.ns.length s.c] 40)) := (Keep.refl _ _).alloc _
      generalize (wr.alloc (.cells #[.int .i64 s.kd, .slice s.A s.ns.length s.c] 40)) = wa at *
      have HYA := hid ha
      have HKA := hid (HI.out.1.then hka)
      have HRI := hid (show Calls Tryd.prog 17 #[.agg #[.int .i64 s.kd, .slice s.A s.ns.length s.c]] wa _ from right_any wa s)
      clear ha hka c0 c1
      obtain ⟨gd, hgd⟩ : ∃ b, b = rightB s.kd s.ns.length := ⟨_, rfl⟩
      rw [← hgd] at HRI
      have HGD := hid (show goodK s.key = gd from hgd.symm)
      clear hgd
      cases gd with
      | false =>
        go_wp2_with (first
          | (refine wpList_load_row rfl _ (.tmp 6) rfl wr.heap.size rfl _ #[.int .i64 s.kd, .slice s.A s.ns.length s.c] (0, 0) _ HYA.out Tryd.underlying40 rfl (by kernel_rfl) ?_)
          | ((with_reducible refine HRI.out.mono ?_); rintro e w6 ⟨rfl, hk6⟩; have HK6 := hid (HKA.out.then hk6); clear hk6))
        go_ret
        exact ⟨rfl, HK6.out⟩
      | true =>
        go_wp2_with (first
          | (refine wpList_load_row rfl _ (.tmp 6) rfl wr.heap.size rfl _ #[.int .i64 s.kd, .slice s.A s.ns.length s.c] (0, 0) _ HYA.out Tryd.underlying40 rfl (by kernel_rfl) ?_)
          | ((with_reducible refine HRI.out.mono ?_); rintro e w6 ⟨rfl, hk6⟩; have HK6 := hid (HKA.out.then hk6); clear hk6))
        go_roundw
        case rel =>
          refine ⟨k + 1, by omega, by go_num, hid ⟨HK6.out, ?_⟩⟩
          intro t ht
          rw [take_snoc HKS.out, List.mem_append] at ht
          rcases ht with ht | ht
          · exact HI.out.2 t ht
          · rw [List.mem_singleton.1 ht]; exact HGD.out
        case measure => simp only [RowKit.intOf]; omega
    · obtain rfl : k = l.length := by omega
      have hI := HI.out
      rw [List.take_length] at hI
      have HK3 := hid hI.1
      have HG := hid hI.2
      clear hI
      have HOF := hid (of_any wr _ A all c (HA.out _ HK3.out) (by have := HAL.out; omega))
      unfold SetPost at HOF
      obtain ⟨ok, hok⟩ : ∃ b, b = decide (conW (ofW all) (keys l) ≠ zeroW) := ⟨_, rfl⟩
      have HOK := hid hok
      clear hok
      have HRUN := hid (run_con (keys l) (ofW all) [] (ofW_ok all) HZ.out (by rw [keys_len]; simp; omega) (by
        intro k hk
        simp only [keys, List.mem_map] at hk
        obtain ⟨s, hs, rfl⟩ := hk
        exact HG.out s hs))
      have h01 : (l.length : Int) ≤ 64 := h64'
      clear h64'
      go_wp2_with fail
      (with_reducible refine HOF.out.mono ?_)
      rintro e w4 ⟨v4, rfl, hs4, hk4⟩
      have HK4 := hid (HK3.out.then hk4)
      have HCN := hid (show Calls Tryd.prog 25 #[.agg #[v4], .slice X l.length cx] w4 (fun e w' => e = .returned (.bool ok) ∧ Same w4 w') from by
        have := consistent_any w4 _ v4 (ofW all) X cx l hs4 (HS.out _ HK4.out) (fun s hs => by have := HN.out.2 s hs; omega) (by have := HN.out.1; omega)
        have e : decide (0 < (elemsW (conW (ofW all) (keys l))).length) = ok := by
          rw [HOK.out, ← elemsI_len]; exact decide_eq_decide.2 (elems_pos (conW_ok (ofW_ok all) _))
        first | rwa [e] at this | skip)
      clear hs4 hk4 HOF
      go_upto_region 12 with ((with_reducible refine HCN.out.mono ?_); rintro e w5 ⟨rfl, hk5⟩; have HK5 := hid (HK4.out.then hk5); clear hk5)
      have HTD := hid (run_any w5 A c all (HA.out _ HK5.out) HAL.out X cx l (HS.out _ HK5.out) (fun s hs => by have := HN.out.2 s hs; omega) (by have := HN.out.1; omega))
      unfold RunPost at HTD
      go_wp2_with fail
      (with_reducible refine HTD.out.mono ?_)
      rintro e w6 (⟨hz6, rfl, _⟩ | ⟨_, eb, r, base, p, rfl, hE6, _, _, hk6⟩)
      · exact absurd hz6 HZ.out
      have HK6 := hid (HK5.out.then hk6)
      have HE6 := hid hE6
      clear hE6 hk6
      go_upto_region 13 with (refine wpList_store_row rfl _ (.tmp 9) (.tmp 51) rfl w6.heap.size p.cells.toArray rfl rfl 36 _ (Blk.made w6 _ _) (by kernel_rfl) rfl (one_toArray (sp_one _)) ?_)
      have hrn := row_new w6 36 #[.slice none 0 0, .slice none 0 0, .slice none 0 0, .slice none 0 0] p.cells.toArray
      generalize (((w6.alloc (.cells #[.slice none 0 0, .slice none 0 0, .slice none 0 0, .slice none 0 0] 36)).setRow w6.heap.size p.cells.toArray)) = w7 at *
      have HK7 := hid (HK6.out.then hrn.2)
      have HE7 := hid (HE6.out.same hrn.2)
      have HAG := hid (show Calls Tryd.prog 26 #[.slice A all.length c, .slice X l.length cx] w7 (fun e w' => e = .returned (.bool ok) ∧ Same w7 w') from by
        have := agree_any w7 _ _ A c all (HA.out _ HK7.out) HAL.out X cx l (HS.out _ HK7.out) (fun s hs => by have := HN.out.2 s hs; omega) (by have := HN.out.1; omega)
        have e : decide (0 < (agreeL all (keys l)).length) = ok := by
          rw [HOK.out, agree_con]; exact decide_eq_decide.2 (elems_pos (conW_ok (ofW_ok all) _))
        rwa [e] at this)
      clear hrn
      have HREJ := hid (fun w8 (hk8 : Same w7 w8) => (show Calls Tryd.prog 19 #[.pointer (some ⟨eb, 0, none⟩)] w8 (fun e w' => ∃ B d n, e = .returned (.slice B n d) ∧ ((n : Int) == 0) = ok ∧ Same w8 w') from by
        refine (rejected_is w8 eb r base (ofW all) _ _ (HE7.out.same hk8)).mono ?_
        rintro e w' ⟨B, d, F, hf, rfl, _, hk⟩
        refine ⟨B, d, F.length, rfl, ?_, hk⟩
        have h1 := tl_nil_len hf
        have h2 := HRUN.out.1
        have h3 : tl (runS (ofW all) (keys l)).2 false = [] ↔ conW (ofW all) (keys l) ≠ zeroW := h2.trans ⟨fun h => h.2, fun h => ⟨rfl, h⟩⟩
        rw [HOK.out]
        by_cases h4 : F.length = 0
        · rw [h4]; simp [h3.1 (h1.2 h4)]
        · have h5 : ¬ conW (ofW all) (keys l) ≠ zeroW := fun h => h4 (h1.1 (h3.2 h))
          rw [decide_eq_false h5, beq_eq_false_iff_ne]; omega))
      clear HRUN HOK
      cases ok
      all_goals
        go_wp2_with (first
          | ((with_reducible refine HAG.out.mono ?_); rintro e w8 ⟨rfl, hk8⟩; have HK8 := hid hk8; clear hk8)
          | ((with_reducible refine (HREJ.out _ HK8.out).mono ?_); rintro e w9 ⟨B9, d9, n9, rfl, hn9, hk9⟩; have HK9 := hid (HK7.out.then (HK8.out.then hk9)); clear hk9))
        go_ret
        exact ⟨rfl, HK9.out⟩
end Go.Proofs.YtafpcffhkbeloaaDoor

import Derived.Test.YtafpcffhkbeloaaDoorLsZ
namespace Go.Proofs.YtafpcffhkbeloaaDoor
open Go.RowKit

/-! ## LocationConsistentSources -/
theorem conW_mem (all : List Nat) (h : OkW all) (ks : List Ks) (n : Nat) (hn : n < 4096) : memW (conW all ks) n = (memW all n && ks.all (fun k => memW (ofW k.2) n)) := by
  unfold conW
  induction ks generalizing all with
  | nil => simp
  | cons k ks ih =>
    rw [List.foldl_cons, ih _ (andW_ok h (ofW_ok _)), andW_mem h (ofW_ok _) n hn, List.all_cons, Bool.and_assoc]
theorem conW_ext {all : List Nat} (h : OkW all) {a b : List Ks} (e : ∀ k, k ∈ a ↔ k ∈ b) : conW all a = conW all b := by
  refine words_ext (conW_ok h a) (conW_ok h b) fun n hn => ?_
  rw [conW_mem all h a n hn, conW_mem all h b n hn]
  congr 1
  rw [Bool.eq_iff_iff, List.all_eq_true, List.all_eq_true]
  exact ⟨fun g k hk => g k ((e k).2 hk), fun g k hk => g k ((e k).1 hk)⟩
theorem reb_mem_iff {ks : List Ks} (hg : ∀ k ∈ ks, goodK k = true) (x : Ks) : x ∈ rebK ks ↔ x ∈ ks := by
  constructor
  · exact reb_mem
  · intro hx
    have h1 := good_kd (hg x hx)
    rw [rebK, List.mem_flatMap]
    exact ⟨x.1, kinds_mem h1.1 h1.2, List.mem_filter.2 ⟨hx, by simp⟩⟩
/-- a node of all claims: nothing is refused -/
theorem con_run {all : List Nat} (h : OkW all) {ks : List Ks} {n : Nat} (hn : n < 4096) (h1 : memW all n = true) (h2 : ∀ k ∈ ks, memW (ofW k.2) n = true) (hg : ∀ k ∈ ks, goodK k = true) (hl : ks.length ≤ 64) :
    all ≠ zeroW ∧ tl (runS all ks).2 false = [] ∧ (runS all ks).1 = conW all ks ∧ memW (conW all ks) n = true := by
  have hz : all ≠ zeroW := fun e => by rw [e, zeroW_mem] at h1; cases h1
  have hc : memW (conW all ks) n = true := by
    rw [conW_mem all h ks n hn, h1, Bool.true_and, List.all_eq_true]; exact h2
  have hcz : conW all ks ≠ zeroW := fun e => by rw [e, zeroW_mem] at hc; cases hc
  have hr := run_con ks all [] h hz (by simpa using hl) hg
  exact ⟨hz, hr.1.2 ⟨rfl, hcz⟩, hr.2 hcz, hc⟩
theorem eq_true (w : World) (u v : Value) (a : List Nat) (ha : IsSet w u a) (hb : IsSet w v a) : Calls Tryd.prog 31 #[.agg #[u], .agg #[v]] w fun e w' => e = .returned (.bool true) ∧ Same w w' := by
  have := equal_any w u v a a ha hb
  rwa [show decide (a = a) = true from by simp] at this
theorem keys_rev (l : List Sr) : keys l.reverse = (keys l).reverse := by simp [keys]
theorem rev_take {l : List Sr} {k : Nat} {s : Sr} (h : l.reverse[k]? = some s) : l.reverse.take (k + 1) = l.reverse.take k ++ [s] := take_snoc h
set_option maxRecDepth 100000 in
set_option maxHeartbeats 8000000 in
theorem cons_any (w : World) (hT : Tab w) (h0 : 0 < w.heap.size) (A : Option Addr) (c : Nat) (all : List Int) (ha : Sl w (fun _ => False) 1 A all.length (icells all)) (X : Option Addr) (cx : Nat) (l : List Sr) (hl : Srs w (fun _ => False) X l) (hlm : l.length ≤ maxLen) (nd : Int) :
    Calls Tryd.prog 8 #[.slice A all.length c, .slice X l.length cx, .int .i64 nd] w (TruePost w) := by
  have HWK := hid (wakes_any w hT h0)
  have HA := hid (fun W (hk2 : Same w W) => ha.same hk2)
  have HS := hid (fun W (hk2 : Same w W) => hl.same hk2)
  have HLM := hid hlm
  unfold TruePost
  clear hT h0 ha hl hlm
  go_enter Tryd.func8, Tryd.ntmps8
  go_wp2_with fail
  (with_reducible refine HWK.out.mono ?_)
  rintro e w1 ⟨rfl, hk1⟩
  have HK1 := hid hk1
  clear hk1 HWK
  by_cases h40 : (all.length : Int) > 40
  · go_wp2_with fail
    go_ret
    exact ⟨rfl, HK1.out⟩
  have h40' : (all.length : Int) ≤ 40 := by omega
  clear h40
  have HSM := hid (small_any w1 _ X cx l (HS.out _ HK1.out) HLM.out)
  obtain ⟨sb, hsb⟩ : ∃ b, b = smallB l := ⟨_, rfl⟩
  rw [← hsb] at HSM
  have HSB := hid hsb
  clear hsb
  cases sb with
  | false =>
    go_wp2_with ((with_reducible refine HSM.out.mono ?_); rintro e w2 ⟨rfl, rfl⟩)
    go_ret
    exact ⟨rfl, HK1.out⟩
  | true =>
  have HN := hid (small_bounds HSB.out.symm)
  by_cases h64 : (l.length : Int) > 64
  · go_wp2_with ((with_reducible refine HSM.out.mono ?_); rintro e w2 ⟨rfl, rfl⟩)
    go_ret
    exact ⟨rfl, HK1.out⟩
  have h64' : (l.length : Int) ≤ 64 := by omega
  clear h64
  have HAL := hid (show all.length ≤ 1000 from by omega)
  have HST := hid (set_any w1 _ A c all (HA.out _ HK1.out) HAL.out)
  unfold IntsPost at HST
  obtain ⟨L0, hL0⟩ : ∃ L, L = setL all := ⟨_, rfl⟩
  have HLE := hid (show L0.length ≤ 1000000 from by rw [hL0]; have := setL_le all; omega)
  rw [← hL0] at HST
  have HL0 := hid hL0
  clear hL0
  obtain ⟨hc, hhc⟩ : ∃ b, b = L0.contains nd := ⟨_, rfl⟩
  have HHC := hid hhc
  have HHA := hid (fun (W : World) (B : Option Addr) (d : Nat) {Bv : Nat → Prop} (hs : Sl W Bv 1 B L0.length (icells L0)) => (show Calls Tryd.prog 29 #[.slice B L0.length d, .int .i64 nd] W (fun e w' => e = .returned (.bool hc) ∧ w' = W) from by
    rw [hhc]; exact has07_any W _ B d L0 hs HLE.out nd))
  clear hhc
  cases hc with
  | false =>
    go_wp2_with (first | ((with_reducible refine HSM.out.mono ?_); rintro e w2 ⟨rfl, rfl⟩) | ((with_reducible refine HST.out.mono ?_); rintro e w2x ⟨B2, d2, rfl, hs2, hk2⟩; have HS2 := hid hs2; have HK2 := hid (HK1.out.then hk2); clear hs2 hk2) | ((with_reducible refine (HHA.out _ B2 d2 HS2.out).mono ?_); rintro e w3x ⟨rfl, hw3⟩; have HW3 := hid hw3; clear hw3))
    go_ret
    exact ⟨rfl, by rw [HW3.out]; exact HK2.out⟩
  | true =>
  go_upto_region 5 with (first | ((with_reducible refine HSM.out.mono ?_); rintro e w2 ⟨rfl, rfl⟩) | ((with_reducible refine HST.out.mono ?_); rintro e w2x ⟨B2, d2, rfl, hs2, hk2⟩; have HS2 := hid hs2; have HK2 := hid (HK1.out.then hk2); clear hs2 hk2) | ((with_reducible refine (HHA.out _ B2 d2 HS2.out).mono ?_); rintro e w3 ⟨rfl, hw3⟩; have HK3 := hid (show Same w w3 from by rw [hw3]; exact HK2.out); clear hw3))
  have HMEM := hid (show 0 ≤ nd ∧ nd < 4096 ∧ memW (ofW all) nd.toNat = true from by
    have h1 : nd ∈ L0 := List.contains_iff_mem.1 HHC.out.symm
    rw [HL0.out, setL_eq] at h1
    have h2 := elemsI_bound (ofW_ok all).len h1
    exact ⟨h2.1, h2.2, ((mem_elemsI (ofW_ok all).len).1 h1).2⟩)
  clear HSM HST HHA HS2 h40'
  go_wp2_with fail
  go_loopw [7, 8, 9, 40] (fun vt _ _ vi wr => ∃ (k : Nat) (D : Option Addr) (d : Nat), vi = .int .i64 k ∧ k ≤ l.length ∧ vt = .slice D k d ∧ Hid (Own wr w3.heap.size 40 2 (.slice D k d) k (srcells (l.reverse.take k)) ∧ Same w3 wr ∧ ∀ s ∈ l.take k, goodK s.key = true ∧ s.ns.contains nd = true)) (fun _ _ _ vi _ => l.length - (RowKit.intOf vi).toNat)
  case atStart => exact ⟨0, none, 0, by go_num, by omega, rfl, hid ⟨by simpa [srcells] using Own.nil w3 w3.heap.size 40 2, Keep.refl _ _, by simp⟩⟩
  case round =>
    obtain ⟨k, D, d, rfl, hk, rfl, HI⟩ := hrel
    by_cases hlt : k < l.length
    · obtain ⟨s, hks⟩ := get_some hlt
      have hk1 : (k : Int) < (l.length : Int) := by omega
      obtain ⟨b1, o1, rfl, hbl, hrow, c0, c1, hso, _⟩ := Srs.at_ (HS.out wr (HK3.out.then HI.out.2.1)) hks
      have HKS := hid hks
      have HN4 := hid (HN.out.2 s (List.mem_of_getElem? hks))
      have HSO := hid hso
      clear hrow hks hso
      go_upto_region 9 with fail
      have ha := Blk.made wr 40 #[.int .i64 s.kd, .slice s.A s.ns.length s.c]
      have hka : Same wr (wr.alloc (.cells #[.int .i64 s.kd, .slice s.A s.ns.length s.c] 40)) := (Keep.refl _ _).alloc _
      generalize (wr.alloc (.cells #[.int .i64 s.kd, .slice s.A s.ns.length s.c] 40)) = wa at *
      have HYA := hid (fun W (hk : Same wa W) => ha.keep (S := fun _ => False) hk (fun f => f))
      have HKA := hid (HI.out.2.1.then hka)
      have HKWA := hid hka
      have HRI := hid (show Calls Tryd.prog 17 #[.agg #[.int .i64 s.kd, .slice s.A s.ns.length s.c]] wa _ from right_any wa s)
      clear ha hka c0 c1
      obtain ⟨gd, hgd⟩ : ∃ b, b = rightB s.kd s.ns.length := ⟨_, rfl⟩
      rw [← hgd] at HRI
      have HGD := hid (show goodK s.key = gd from hgd.symm)
      clear hgd
      cases gd with
      | false =>
        go_wp2_with (first
          | (refine wpList_load_row rfl _ (.tmp 9) rfl wr.heap.size rfl _ #[.int .i64 s.kd, .slice s.A s.ns.length s.c] (0, 0) _ (HYA.out _ (Keep.refl _ _)) Tryd.underlying40 rfl (by kernel_rfl) ?_)
          | ((with_reducible refine HRI.out.mono ?_); rintro e w6 ⟨rfl, hk6⟩; have HK6 := hid (HKA.out.then hk6); clear hk6))
        go_ret
        exact ⟨rfl, HK3.out.then HK6.out⟩
      | true =>
      obtain ⟨hc2, hhc2⟩ : ∃ b, b = s.ns.contains nd := ⟨_, rfl⟩
      have HHC2 := hid hhc2
      have HH2 := hid (fun (W : World) (hk : Same wa W) => (show Calls Tryd.prog 29 #[.slice s.A s.ns.length s.c, .int .i64 nd] W (fun e w' => e = .returned (.bool hc2) ∧ w' = W) from by
        rw [hhc2]; exact has07_any W _ s.A s.c s.ns (Sl.same (Sl.same HSO.out HKWA.out) hk) (by have := HN4.out; omega) nd))
      clear hhc2
      cases hc2 with
      | false =>
        go_wp2_with (first
          | (refine wpList_load_row rfl _ (.tmp 9) rfl wr.heap.size rfl _ #[.int .i64 s.kd, .slice s.A s.ns.length s.c] (0, 0) _ (HYA.out _ (Keep.refl _ _)) Tryd.underlying40 rfl (by kernel_rfl) ?_)
          | ((with_reducible refine HRI.out.mono ?_); rintro e w6 ⟨rfl, hk6⟩; have HK6a := hid hk6; have HK6 := hid (HKA.out.then hk6); have y1 : w6.cell? ⟨wr.heap.size, 1, none⟩ = some (.slice s.A s.ns.length s.c) := (HYA.out _ hk6).at_ 1; clear hk6)
          | ((with_reducible refine (HH2.out _ HK6a.out).mono ?_); rintro e w7x ⟨rfl, hw7⟩; have HW7 := hid hw7; clear hw7))
        go_ret
        exact ⟨rfl, by rw [HW7.out]; exact HK3.out.then HK6.out⟩
      | true =>
      go_upto_region 11 with (first
          | (refine wpList_load_row rfl _ (.tmp 9) rfl wr.heap.size rfl _ #[.int .i64 s.kd, .slice s.A s.ns.length s.c] (0, 0) _ (HYA.out _ (Keep.refl _ _)) Tryd.underlying40 rfl (by kernel_rfl) ?_)
          | ((with_reducible refine HRI.out.mono ?_); rintro e w6 ⟨rfl, hk6⟩; have HK6a := hid hk6; have HK6 := hid (HKA.out.then hk6); have y1 : w6.cell? ⟨wr.heap.size, 1, none⟩ = some (.slice s.A s.ns.length s.c) := (HYA.out _ hk6).at_ 1; clear hk6)
          | ((with_reducible refine (HH2.out _ HK6a.out).mono ?_); rintro e w7 ⟨rfl, hw7⟩; have HK7 := hid (show Same w3 w7 from by rw [hw7]; exact HK6.out); have HKR7 := hid (show Same wr w7 from by rw [hw7]; exact HKWA.out.then HK6a.out); clear hw7 y1))
      obtain ⟨kk, hkk⟩ : ∃ kk, kk = l.length - 1 - k := ⟨_, rfl⟩
      obtain ⟨z, hz⟩ := get_some (l := l) (k := kk) (by omega)
      have HRV := hid (show l.reverse[k]? = some z from by rw [List.getElem?_reverse hlt, ← hkk]; exact hz)
      obtain ⟨b2, o2, hb2, _, hrz, _, _, _, _⟩ := Srs.at_ (HS.out w7 (HK3.out.then HK7.out)) hz
      injection hb2 with hb2
      injection hb2 with hb3 hb4
      subst hb3 hb4
      have e1 : (l.length : Int) - 1 - (k : Int) = (kk : Int) := by omega
      have hkk2 : (kk : Int) < (l.length : Int) := by omega
      have HRZ := hid hrz
      have hl70 : l.length ≤ 70 := HN.out.1
      have HO7 := hid (HI.out.1.keep HKR7.out (fun _ _ _ f => f))
      have hs37 := HK7.out.size
      clear hkk hz hrz
      go_wp2_with (first
        | (refine wpList_load_mid rfl _ (.tmp 62) rfl _ _ rfl [.int .i64 z.kd, .slice z.A z.ns.length z.c] _ HRZ.out Tryd.underlying40 rfl (by kernel_rfl) ?_)
        | (at_builtin; refine ESrc.law2 (.tmp 55) (.tmp 64) (.slice D k d) (some ⟨w7.heap.size, 0, none⟩) 1 1 rfl rfl rfl rfl w3.heap.size k (srcells (l.reverse.take k)) z.cells (k + 1) (srcells (l.reverse.take k) ++ z.cells) rfl rfl (HO7.out.keep ((Keep.refl (fun _ => False) w7).alloc _) (fun _ _ _ f => f)) rfl (fun _ => ⟨_, rfl, src_new rfl⟩) (src_one z) (by omega) (by unfold maxLen; omega) (by first | omega | (simp; omega)) ?_; intro A' c' w8 hown hg _; have HOW := hid hown; have HG := hid hg; clear hown hg))
      go_roundw
      case rel =>
        refine ⟨k + 1, A', c', by go_num, by omega, rfl, hid ⟨?_, ?_, ?_⟩⟩
        · rw [rev_take HRV.out, srcells_snoc]; exact HOW.out
        · exact (HK7.out.alloc _).grown HG.out (fun g e hl => by have := HO7.out.block g e; omega)
        · intro t ht
          rw [take_snoc HKS.out, List.mem_append] at ht
          rcases ht with ht | ht
          · exact HI.out.2.2 t ht
          · rw [List.mem_singleton.1 ht]; exact ⟨HGD.out, HHC2.out.symm⟩
      case measure => simp only [RowKit.intOf]; omega
    · obtain rfl : k = l.length := by omega
      have hI := HI.out
      rw [List.take_length, show l.reverse.take l.length = l.reverse from List.take_of_length_le (by simp)] at hI
      have HKR := hid hI.2.1
      have HGG := hid hI.2.2
      have HK4 := hid (HK3.out.then hI.2.1)
      have HTS := hid (show Srs wr (fun _ => False) D l.reverse from ⟨by rw [List.length_reverse]; exact hI.1.sl (fun _ _ f => f), fun s hs => (HS.out wr (HK3.out.then hI.2.1)).each s (by simpa using hs)⟩)
      clear hI HI
      obtain ⟨ks, hks⟩ : ∃ ks, ks = keys l := ⟨_, rfl⟩
      have hGk : ∀ k ∈ ks, goodK k = true ∧ memW (ofW k.2) nd.toNat = true := by
        intro k hk
        rw [hks] at hk
        simp only [keys, List.mem_map] at hk
        obtain ⟨s, hs, rfl⟩ := hk
        have h1 := HGG.out s hs
        refine ⟨h1.1, ?_⟩
        have h3 := HMEM.out
        have h4 : nd ∈ s.ns := List.contains_iff_mem.1 h1.2
        rw [ofW_mem s.key.2 nd.toNat (by omega), decide_eq_true_eq, Int.toNat_of_nonneg h3.1]
        exact h4
      have hkl : ks.length ≤ 64 := by rw [hks, keys_len]; omega
      have hm := HMEM.out
      have hr1 := con_run (ofW_ok all) (n := nd.toNat) (by omega) hm.2.2 (fun k hk => (hGk k hk).2) (fun k hk => (hGk k hk).1) hkl
      have hr2 := con_run (ofW_ok all) (ks := ks.reverse) (n := nd.toNat) (by omega) hm.2.2 (fun k hk => (hGk k (by simpa using hk)).2) (fun k hk => (hGk k (by simpa using hk)).1) (by simpa using hkl)
      have hrl : (rebK ks).length ≤ 64 := Nat.le_trans (reb_le ks) hkl
      have hr3 := con_run (ofW_ok all) (ks := rebK ks) (n := nd.toNat) (by omega) hm.2.2 (fun k hk => (hGk k (reb_mem hk)).2) (fun k hk => (hGk k (reb_mem hk)).1) hrl
      have hrk := run_keys (ofW all) ks (fun k hk => (hGk k hk).1) hkl
      have ee2 : conW (ofW all) ks.reverse = conW (ofW all) ks := conW_ext (ofW_ok all) (fun k => by simp)
      have ee3 : conW (ofW all) (rebK ks) = conW (ofW all) ks := conW_ext (ofW_ok all) (reb_mem_iff (fun k hk => (hGk k hk).1))
      obtain ⟨N, hN⟩ : ∃ N, N = conW (ofW all) ks := ⟨_, rfl⟩
      rw [ee2] at hr2
      rw [ee3] at hr3
      rw [← hN] at hr1 hr2 hr3
      obtain ⟨st1, hst1⟩ : ∃ s, s = runS (ofW all) ks := ⟨_, rfl⟩
      obtain ⟨st2, hst2⟩ : ∃ s, s = runS (ofW all) ks.reverse := ⟨_, rfl⟩
      obtain ⟨st3, hst3⟩ : ∃ s, s = runS (ofW all) (rebK (st1.2.map (·.1))) := ⟨_, rfl⟩
      have HF1 := hid (show st1.1 = N ∧ tl st1.2 false = [] ∧ (∀ x ∈ st1.2, goodK x.1 = true) from by rw [hst1]; exact ⟨hr1.2.2.1, hr1.2.1, fun x hx => (runS_good _ _ x hx).1⟩)
      have HF2 := hid (show st2.1 = N from by rw [hst2]; exact hr2.2.2.1)
      have HF3 := hid (show st3.1 = N from by rw [hst3, hst1, hrk]; exact hr3.2.2.1)
      have HZ := hid hr1.1
      have HHW := hid (show hasW N nd = true from by
        rw [hasW, hr1.2.2.2, Bool.and_true]; exact decide_eq_true ⟨hm.1, hm.2.1⟩)
      have HRP := hid hst3
      have HTD1 := hid (show Calls Tryd.prog 18 #[.slice A all.length c, .slice X l.length cx] wr (fun e w' => ∃ eb r base p, e = .returned (.tuple #[.pointer (some ⟨eb, 0, none⟩), .agg (Sp.cells p).toArray, .bool true]) ∧ EstIs w' eb r base (ofW all) st1.1 st1.2 ∧ Same wr w') from by
        have := run_any wr A c all (HA.out _ HK4.out) HAL.out X cx l (HS.out _ HK4.out) (fun s hs => by have := HN.out.2 s hs; omega) (by have := HN.out.1; omega)
        refine this.mono ?_
        rintro e w' (⟨hz, _⟩ | ⟨_, eb, r, base, p, h1, h2, _, _, h3⟩)
        · exact absurd hz HZ.out
        · exact ⟨eb, r, base, p, h1, by rw [hst1, hks]; exact h2, h3⟩)
      have HTD2 := hid (fun W (hk : Same wr W) => (show Calls Tryd.prog 18 #[.slice A all.length c, .slice D l.length d] W (fun e w' => ∃ eb r base p, e = .returned (.tuple #[.pointer (some ⟨eb, 0, none⟩), .agg (Sp.cells p).toArray, .bool true]) ∧ EstIs w' eb r base (ofW all) st2.1 st2.2 ∧ Same W w') from by
        have := run_any W A c all (HA.out _ (HK4.out.then hk)) HAL.out D d l.reverse (HTS.out.same hk) (fun s hs => by have := HN.out.2 s (by simpa using hs); omega) (by have := HN.out.1; rw [List.length_reverse]; omega)
        rw [List.length_reverse] at this
        refine this.mono ?_
        rintro e w' (⟨hz, _⟩ | ⟨_, eb, r, base, p, h1, h2, _, _, h3⟩)
        · exact absurd hz HZ.out
        · exact ⟨eb, r, base, p, h1, by rw [hst2, hks, ← keys_rev]; exact h2, h3⟩))
      clear hr1 hr2 hr3 hrk ee2 ee3 hN hst1 hst2 hst3 hks hGk hkl hm hrl
      go_upto_region 14 with (first
        | ((with_reducible refine HTD1.out.mono ?_); rintro e w5 ⟨eb, r, base, p, rfl, hE5, hk5⟩; have HE5 := hid hE5; have HK5 := hid hk5; clear hE5 hk5)
        | (refine wpList_store_row rfl _ (.tmp 11) (.tmp 72) rfl w5.heap.size p.cells.toArray rfl rfl 36 _ (Blk.made w5 _ _) (by kernel_rfl) rfl (one_toArray (sp_one _)) ?_))
      have hrn := row_new w5 36 #[.slice none 0 0, .slice none 0 0, .slice none 0 0, .slice none 0 0] p.cells.toArray
      generalize (((w5.alloc (.cells #[.slice none 0 0, .slice none 0 0, .slice none 0 0, .slice none 0 0] 36)).setRow w5.heap.size p.cells.toArray)) = w6 at *
      have HK6 := hid (HK5.out.then hrn.2)
      have HE6 := hid (HE5.out.same hrn.2)
      clear hrn
      go_upto_region 15 with (first
        | ((with_reducible refine (HTD2.out _ HK6.out).mono ?_); rintro e w7 ⟨eb2, r2, base2, p2, rfl, hE7, hk7⟩; have HE7 := hid hE7; have HK7 := hid hk7; clear hE7 hk7)
        | (refine wpList_store_row rfl _ (.tmp 14) (.tmp 79) rfl w7.heap.size p2.cells.toArray rfl rfl 36 _ (Blk.made w7 _ _) (by kernel_rfl) rfl (one_toArray (sp_one _)) ?_))
      have hrn := row_new w7 36 #[.slice none 0 0, .slice none 0 0, .slice none 0 0, .slice none 0 0] p2.cells.toArray
      generalize (((w7.alloc (.cells #[.slice none 0 0, .slice none 0 0, .slice none 0 0, .slice none 0 0] 36)).setRow w7.heap.size p2.cells.toArray)) = w8 at *
      have HKW := hid (HK4.out.then (HK6.out.then (HK7.out.then hrn.2)))
      have HES := hid (fun W (hk : Same w8 W) => (show EstIs W eb r base (ofW all) N st1.2 from by rw [← HF1.out.1]; exact ((HE6.out.same HK7.out).same hrn.2).same hk))
      have HET := hid (fun W (hk : Same w8 W) => (show EstIs W eb2 r2 base2 (ofW all) N st2.2 from by rw [← HF2.out]; exact (HE7.out.same hrn.2).same hk))
      clear hrn
      have HRJ := hid (show Calls Tryd.prog 19 #[.pointer (some ⟨eb, 0, none⟩)] w8 (fun e w' => ∃ B d, e = .returned (.slice B 0 d) ∧ Same w8 w') from by
        refine (rejected_is w8 eb r base (ofW all) _ _ (HES.out _ (Keep.refl _ _))).mono ?_
        rintro e w' ⟨B, d, F, hf, rfl, _, hk⟩
        have h1 := (tl_nil_len hf).1 HF1.out.2.1
        exact ⟨B, d, by rw [h1], hk⟩)
      have HNS := hid (fun W (hk : Same w8 W) => nodes_is W eb r base (ofW all) _ _ (HES.out W hk))
      have HNT := hid (fun W (hk : Same w8 W) => nodes_is W eb2 r2 base2 (ofW all) _ _ (HET.out W hk))
      have HRB := hid (fun W (hk : Same w8 W) => (show Calls Tryd.prog 27 #[.pointer (some ⟨eb, 0, none⟩)] W (fun e w' => ∃ eb r base, e = .returned (.pointer (some ⟨eb, 0, none⟩)) ∧ EstIs w' eb r base (ofW all) N st3.2 ∧ Same W w') from by
        rw [← HF3.out]; exact reb_is2 W eb r base (ofW all) _ _ (HES.out W hk) HF1.out.2.2 st3 HRP.out))
      have HHS := hid (fun W v (hs : IsSet W v N) => (show Calls Tryd.prog 30 #[.agg #[v], .int .i64 nd] W (fun e w' => e = .returned (.bool true) ∧ Same W w') from by
        have := has_any W v N hs nd
        rwa [HHW.out] at this))
      go_wp2_with (first
        | ((with_reducible refine HRJ.out.mono ?_); rintro e a1 ⟨Bj, dj, rfl, hk⟩; have HA1 := hid hk; clear hk HRJ)
        | ((with_reducible refine (HNS.out _ HA1.out).mono ?_); rintro e a2 ⟨v2, rfl, hs, hk⟩; have HV2 := hid hs; have HA2 := hid (HA1.out.then hk); clear hs hk HA1)
        | ((with_reducible refine (HHS.out _ _ HV2.out).mono ?_); rintro e a3 ⟨rfl, hk⟩; have HA3 := hid (HA2.out.then hk); clear hk HA2)
        | ((with_reducible refine (HNS.out _ HA3.out).mono ?_); rintro e a4 ⟨v4, rfl, hs, hk⟩; have HV4 := hid hs; have HA4 := hid (HA3.out.then hk); clear hs hk HA3)
        | ((with_reducible refine (HNT.out _ HA4.out).mono ?_); rintro e a5 ⟨v5, rfl, hs, hk⟩; have HV5 := hid hs; have HV45 := hid (HV4.out.same hk); have HA5 := hid (HA4.out.then hk); clear hs hk HA4)
        | ((with_reducible refine (eq_true _ v4 v5 N HV45.out HV5.out).mono ?_); rintro e a6 ⟨rfl, hk⟩; have HA6 := hid (HA5.out.then hk); clear hk HA5)
        | ((with_reducible refine (HRB.out _ HA6.out).mono ?_); rintro e a7 ⟨e3, r3, b3, rfl, hs, hk⟩; have HE3 := hid hs; have HA7 := hid (HA6.out.then hk); clear hs hk HA6)
        | ((with_reducible refine (nodes_is _ e3 r3 b3 (ofW all) _ _ HE3.out).mono ?_); rintro e a8 ⟨v8, rfl, hs, hk⟩; have HV8 := hid hs; have HA8 := hid (HA7.out.then hk); clear hs hk HA7)
        | ((with_reducible refine (HNS.out _ HA8.out).mono ?_); rintro e a9 ⟨v9, rfl, hs, hk⟩; have HV9 := hid hs; have HV89 := hid (HV8.out.same hk); have HA9 := hid (HA8.out.then hk); clear hs hk HA8)
        | ((with_reducible refine (eq_true _ v8 v9 N HV89.out HV9.out).mono ?_); rintro e a10 ⟨rfl, hk⟩; have HA10 := hid (HA9.out.then hk); clear hk HA9))
      go_ret
      exact ⟨rfl, HKW.out.then HA10.out⟩
end Go.Proofs.YtafpcffhkbeloaaDoor

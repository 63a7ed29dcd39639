import Derived.Test.YtmllpapkgfclkaaTpW
namespace Go.Proofs.Ytmllpapkgfclkaa
open Go.RowKit

/-! ## Tables of travel times: their memory -/
theorem ECh : Elem Try.prog 23 33 3 24 (.agg #[.int .i64 0, .int .i64 0, .int .i64 0]) := ⟨Try.underlying23, by kernel_rfl, rfl, by decide⟩
theorem EChs : Elem Try.prog 52 23 1 24 (.slice none 0 0) := ⟨Try.underlying52, by kernel_rfl, rfl, by decide⟩
/-- The block p holds the row headers V; the row at h holds the numbers L[h]; no two rows share a block. -/
structure TbC (w : World) (base p : Nat) (V : List Value) (L : List (List E3)) : Prop where
  blk : Blk w p 23 V.toArray
  len : V.length = L.length
  own : ∀ (h : Nat) (v : Value) (l : List E3), V[h]? = some v → L[h]? = some l → Own w base 33 3 v l.length (e3cells l)
  off : ∀ (h : Nat) (v : Value), V[h]? = some v → v.ownBlock ≠ some p
  apart : ∀ (h k : Nat) (v u : Value), V[h]? = some v → V[k]? = some u → h ≠ k → ∀ g, v.ownBlock = some g → u.ownBlock ≠ some g

theorem TbC.made (w : World) (base n : Nat) : TbC (w.alloc (.cells (List.replicate n (Value.slice none 0 0)).toArray 23)) base w.heap.size (List.replicate n (.slice none 0 0)) (List.replicate n []) :=
  ⟨Blk.made w _ _, by simp, fun h v l hv hl => by
    rw [rep_some hv, rep_some hl]
    exact Own.nil _ _ _ _, fun h v hv => by
    rw [rep_some hv]
    simp [Value.ownBlock], fun h k v u hv _ _ g hg => by
    rw [rep_some hv] at hg
    simp [Value.ownBlock] at hg⟩
theorem TbC.keep {S : Nat → Prop} {w w' : World} {base p : Nat} {V : List Value} {L : List (List E3)} (h : TbC w base p V L) (hk : Keep S w w') (hp : ¬ S p) (hS : ∀ (h : Nat) (v : Value), V[h]? = some v → ∀ g, v.ownBlock = some g → ¬ S g) : TbC w' base p V L :=
  ⟨h.blk.keep hk hp, h.len, fun i v l hv hl => (h.own i v l hv hl).keepB hk (hS i v hv), h.off, h.apart⟩
theorem TbC.same {w w' : World} {base p : Nat} {V : List Value} {L : List (List E3)} (h : TbC w base p V L) (hk : Same w w') : TbC w' base p V L := h.keep hk (fun f => f) (fun _ _ _ _ _ f => f)
theorem TbC.row {w : World} {base p : Nat} {V : List Value} {L : List (List E3)} (h : TbC w base p V L) {k : Nat} {l : List E3} (hl : L[k]? = some l) : ∃ A c, V[k]? = some (.slice A l.length c) ∧ Own w base 33 3 (.slice A l.length c) l.length (e3cells l) ∧ w.cell? ⟨p, k, none⟩ = some (.slice A l.length c) := by
  have hk : k < V.length := by rw [h.len]; exact (List.getElem?_eq_some_iff.1 hl).1
  obtain ⟨v, hv⟩ := get_some hk
  have ho := h.own k v l hv hl
  obtain ⟨A, c, rfl⟩ := ho.shape
  exact ⟨A, c, hv, ho, (h.blk.at_ k).trans (by simpa using hv)⟩
theorem TbC.blocks {w : World} {base p : Nat} {V : List Value} {L : List (List E3)} (h : TbC w base p V L) {k : Nat} {v : Value} (hv : V[k]? = some v) : ∀ g, v.ownBlock = some g → base ≤ g ∧ g < w.heap.size := by
  have hk : k < L.length := by rw [← h.len]; exact (List.getElem?_eq_some_iff.1 hv).1
  obtain ⟨l, hl⟩ := get_some hk
  have ho := h.own k v l hv hl
  exact fun g hg => ⟨ho.block g hg, ho.lt g hg⟩
/-- The row at k grows (its header v, in the world w, becomes v' in w1), and the new header is stored. -/
theorem TbC.add {w w1 : World} {base p : Nat} {V : List Value} {L : List (List E3)} (h : TbC w base p V L) {k : Nat} {v v' : Value} {l news : List E3} (hv : V[k]? = some v) (hl : L[k]? = some l) (hg : w.grownBy w1 v.ownBlock)
    (ho : Own w1 base 33 3 v' (l ++ news).length (e3cells (l ++ news))) (hw : v'.ownBlock = v.ownBlock ∨ ∃ g, v'.ownBlock = some g ∧ w.heap.size ≤ g) : TbC (w1.setCell ⟨p, k, none⟩ v') base p (V.set k v') (L.set k (l ++ news)) := by
  have hk1 : Keep (fun g => v.ownBlock = some g) w w1 := (Keep.refl _ w).grown hg (fun g e _ => e)
  have hp1 : Blk w1 p 23 V.toArray := h.blk.keep hk1 (h.off k v hv)
  have hp2 : Keep (· = p) w1 (w1.setCell ⟨p, k, none⟩ v') := (Keep.refl _ w1).put k v'
  have hpl := h.blk.lt
  have off' : v'.ownBlock ≠ some p := by
    rcases hw with e | ⟨g, e, hg⟩
    · rw [e]; exact h.off k v hv
    · rw [e]; intro x; injection x with x; omega
  have get : ∀ i u, (V.set k v')[i]? = some u → (i = k ∧ u = v') ∨ (i ≠ k ∧ V[i]? = some u) := fun i u hu => by
    rw [List.getElem?_set] at hu
    by_cases e : k = i
    · rw [if_pos e] at hu
      split at hu
      · exact .inl ⟨e.symm, (Option.some.inj hu).symm⟩
      · cases hu
    · rw [if_neg e] at hu; exact .inr ⟨fun x => e x.symm, hu⟩
  refine ⟨?_, by simp [h.len], ?_, ?_, ?_⟩
  · have := hp1.put k v'
    simpa using this
  · intro i u m hu hm
    rcases get i u hu with ⟨rfl, rfl⟩ | ⟨hi, hu⟩
    · have hlt : i < L.length := (List.getElem?_eq_some_iff.1 hl).1
      rw [List.getElem?_set_self hlt] at hm
      cases hm
      exact ho.keepB hp2 (fun g hg e => off' (by rw [hg, e]))
    · rw [List.getElem?_set_ne (fun x => hi x.symm)] at hm
      exact ((h.own i u m hu hm).keepB hk1 (fun g hg hs => h.apart i k u v hu hv hi g hg hs)).keepB hp2 (fun g hg e => h.off i u hu (by rw [hg, e]))
  · intro i u hu
    rcases get i u hu with ⟨_, rfl⟩ | ⟨_, hu⟩
    · exact off'
    · exact h.off i u hu
  · intro i j u x hu0 hx0 hij g hg
    rcases get i u hu0 with ⟨rfl, rfl⟩ | ⟨hi, hu⟩
    · rcases get j x hx0 with ⟨rfl, rfl⟩ | ⟨hj, hx⟩
      · exact absurd rfl hij
      · intro e
        rcases hw with q | ⟨g', q, hq⟩
        · exact h.apart i j v x hv hx hij g (q ▸ hg) e
        · have := (h.blocks hx g e).2
          rw [q] at hg; injection hg with hg; omega
    · rcases get j x hx0 with ⟨rfl, rfl⟩ | ⟨hj, hx⟩
      · intro e
        rcases hw with q | ⟨g', q, hq⟩
        · exact h.apart i j u v hu hv hij g hg (q ▸ e)
        · have := (h.blocks hu g hg).2
          rw [q] at e; injection e with e; omega
      · exact h.apart i j u x hu hx hij g hg

/-! ## Searching -/
def srch (p : Nat → Bool) (i j : Nat) : Nat := if h : i < j then (if p ((i + j) / 2) then srch p i ((i + j) / 2) else srch p ((i + j) / 2 + 1) j) else i
termination_by j - i
decreasing_by all_goals omega
theorem srch_le (p : Nat → Bool) : ∀ (k i j : Nat), j - i ≤ k → i ≤ j → i ≤ srch p i j ∧ srch p i j ≤ j := by
  intro k
  induction k with
  | zero => intro i j h1 h2; rw [srch, dif_neg (by omega)]; omega
  | succ k ih =>
    intro i j h1 h2
    rw [srch]
    split
    · split
      · have := ih i ((i + j) / 2) (by omega) (by omega); omega
      · have := ih ((i + j) / 2 + 1) j (by omega) (by omega); omega
    · omega
theorem srch_yes {p : Nat → Bool} {i j : Nat} (h : i < j) (hp : p ((i + j) / 2) = true) : srch p i j = srch p i ((i + j) / 2) := by
  rw [srch, dif_pos h, if_pos hp]
theorem srch_no {p : Nat → Bool} {i j : Nat} (h : i < j) (hp : p ((i + j) / 2) = false) : srch p i j = srch p ((i + j) / 2 + 1) j := by
  rw [srch, dif_pos h, if_neg (by simp [hp])]
theorem srch_end {p : Nat → Bool} {i : Nat} : srch p i i = i := by rw [srch, dif_neg (by omega)]
set_option maxRecDepth 100000 in
set_option maxHeartbeats 4000000 in
theorem search_any (w : World) (cb : Array Value) (n : Nat) (p : Nat → Bool) (hn : n ≤ 1000000)
    (hp : ∀ W, Same w W → ∀ i : Nat, i < n → Calls Try.prog 37 (#[.int .i64 i] ++ cb) W fun e w' => e = .returned (.bool (p i)) ∧ Same W w') :
    Calls Try.prog 36 #[.int .i64 n, .func (.func 37) #[] cb] w fun e w' => e = .returned (.int .i64 (srch p 0 n)) ∧ Same w w' := by
  have HP := hid hp
  clear hp
  go_enter Try.func36, Try.ntmps36
  go_wp2_with fail
  go_loopw [5, 6] (fun a b wr => ∃ i j : Nat, i ≤ j ∧ j ≤ n ∧ a = .int .i64 i ∧ b = .int .i64 j ∧ Hid (srch p 0 n = srch p i j ∧ Same w wr)) (fun a b _ => (RowKit.intOf b).toNat - (RowKit.intOf a).toNat)
  case atStart => exact ⟨0, n, Nat.zero_le _, Nat.le_refl _, rfl, rfl, hid ⟨rfl, Keep.refl _ _⟩⟩
  case round =>
    obtain ⟨i, j, hij, hjn, rfl, rfl, HL⟩ := hrel
    by_cases hlt : i < j
    · have hc := HP.out wr HL.out.2 ((i + j) / 2) (by omega)
      rw [show (((i + j) / 2 : Nat) : Int) = ((i : Int) + (j : Int)) / 2 by omega] at hc
      have HPP := hid (rfl : p ((i + j) / 2) = p ((i + j) / 2))
      cases hpp : p ((i + j) / 2)
      · have HN := hid (srch_no hlt hpp)
        rw [hpp] at hc
        clear hpp HPP
        go_wp2_with (go_at_call 37; (with_reducible refine hc.mono ?_); rintro e w2 ⟨rfl, hk2⟩)
        have HK2 := hid hk2
        clear hk2
        go_roundw
        case rel => first | exact ⟨(i + j) / 2 + 1, j, by omega, hjn, by go_num, rfl, hid ⟨by rw [HL.out.1, HN.out], HL.out.2.then HK2.out⟩⟩ | ((repeat apply Exists.intro); refine And.intro ?_ rfl; exact ⟨(i + j) / 2 + 1, j, by omega, hjn, by rw [show (i : Int) + (j : Int) = ((i + j : Nat) : Int) by omega]; rfl, rfl, hid ⟨by rw [HL.out.1, HN.out], HL.out.2.then HK2.out⟩⟩)
        case measure => simp [RowKit.intOf]; omega
      · have HN := hid (srch_yes hlt hpp)
        rw [hpp] at hc
        clear hpp HPP
        go_wp2_with (go_at_call 37; (with_reducible refine hc.mono ?_); rintro e w2 ⟨rfl, hk2⟩)
        have HK2 := hid hk2
        clear hk2
        go_roundw
        case rel => first | exact ⟨i, (i + j) / 2, by omega, by omega, rfl, by go_num, hid ⟨by rw [HL.out.1, HN.out], HL.out.2.then HK2.out⟩⟩ | ((repeat apply Exists.intro); refine And.intro ?_ rfl; exact ⟨i, (i + j) / 2, by omega, by omega, rfl, by rw [show (i : Int) + (j : Int) = ((i + j : Nat) : Int) by omega]; rfl, hid ⟨by rw [HL.out.1, HN.out], HL.out.2.then HK2.out⟩⟩)
        case measure => simp [RowKit.intOf]; omega
    · have hke : j = i := by omega
      subst hke
      go_wp2_with fail
      go_ret
      exact ⟨by rw [HL.out.1, srch_end]; rfl, HL.out.2⟩
def geB (l : List E3) (t : Int) (i : Nat) : Bool := match l[i]? with | some e => decide (t ≤ e.a) | none => false
set_option maxRecDepth 100000 in
theorem cb1_any (w : World) (b1 b2 : Nat) (A : Option Addr) (c : Nat) (l : List E3) (t : Int) (h1 : w.cell? ⟨b1, 0, none⟩ = some (.slice A l.length c)) (h2 : w.cell? ⟨b2, 0, none⟩ = some (.int .i64 t)) (hl : Sl w (fun _ => False) 3 A l.length (e3cells l)) (i : Nat) (hi : i < l.length) (_hl1 : l.length ≤ 1000000) :
    Calls Try.prog 37 (#[.int .i64 i] ++ #[.pointer (some ⟨b1, 0, none⟩), .pointer (some ⟨b2, 0, none⟩)]) w fun e w' => e = .returned (.bool (geB l t i)) ∧ Same w w' := by
  obtain ⟨e, he⟩ := get_some hi
  obtain ⟨b, o, rfl, hb, x0, _, _⟩ := e3_at hl he
  have HG := hid (show geB l t i = decide (t ≤ e.a) from by unfold geB; rw [he])
  have hi0 : (0 : Int) ≤ (i : Int) := Int.natCast_nonneg _
  have hi1 : (i : Int) < (l.length : Int) := by omega
  generalize e.a = ea at *
  clear hl he
  simp only [List.append_toArray, List.cons_append, List.nil_append]
  go_enter Try.func37, Try.ntmps37
  go_wp2_with fail
  go_quiet (fail)
  all_goals
    go_wp2_with fail
    go_ret
    exact ⟨by rw [HG.out]; rfl, by first | exact Keep.refl _ _ | exact (Keep.refl _ _).drewN _⟩
set_option maxRecDepth 100000 in
theorem countB_any (w : World) (A : Option Addr) (c : Nat) (l : List E3) (t : Int) (hl : Sl w (fun _ => False) 3 A l.length (e3cells l)) (hl1 : l.length ≤ 1000000) :
    Calls Try.prog 29 #[.slice A l.length c, .int .i64 t] w fun e w' => e = .returned (.int .i64 (srch (geB l t) 0 l.length)) ∧ Same w w' := by
  have hk1 := (Keep.refl (fun _ => False) w).alloc (.cells #[.slice A l.length c] 23)
  have hk2 := hk1.alloc (.cells #[.int .i64 t] 2)
  have H2 := hid hk2
  have HS := hid (search_any ((w.alloc (.cells #[.slice A l.length c] 23)).alloc (.cells #[.int .i64 t] 2)) #[.pointer (some ⟨w.heap.size, 0, none⟩), .pointer (some ⟨w.heap.size + 1, 0, none⟩)] l.length (geB l t) hl1 (fun W hW i hi => by
    have b1 := ((Blk.made w 23 #[.slice A l.length c]).alloc (.cells #[.int .i64 t] 2)).keep hW (fun f => f)
    have b2 := (Blk.made (w.alloc (.cells #[.slice A l.length c] 23)) 2 #[.int .i64 t]).keep hW (fun f => f)
    rw [World.size_alloc] at b2
    exact cb1_any W _ _ A c l t ((b1.at_ 0).trans rfl) ((b2.at_ 0).trans rfl) ((hl.same hk2).same hW) i hi hl1))
  clear hl hk1 hk2
  go_enter Try.func29, Try.ntmps29
  go_wp2_with (go_at_call 36; (with_reducible refine HS.out.mono ?_); rintro e w2 ⟨rfl, hk2⟩)
  have HK2 := hid (H2.out.then hk2)
  clear hk2
  go_ret
  exact ⟨rfl, HK2.out⟩
end Go.Proofs.Ytmllpapkgfclkaa

import Derived.Test.YtohgclbgjdpggaaWireAL
namespace Go.Proofs.Ytohgclbgjdpggaa
open Go.RowKit

theorem takeO {P : Program} {md : Region.Mode} {ops : Array Oper} {Q : Exit → Act → World → Prop} {S : World → Prop} {i : Nat} {oi : Oper} {v : Value} {fuel : Nat} {listed : Array Bool} {a : Act} {w : World}
    (hs : Region.noSelect ops = true) (hf : Region.free md ops listed i = true) (hr : (Region.ready md ops listed).contains i = true) (hQ : ∀ c a d v w, Q (.panic c) (Act.put a d v) w → Q (.panic c) a w) (hi : ops[i]? = some oi) (hy : YieldsIf P ops S oi v a) (hS : S w)
    (h : wpAnyH P md ops Q S fuel (listed.setIfInBounds i true) (a.put oi.dst v) w) : wpAnyH P md ops Q S (fuel + 1) listed a w := wpAnyH_take hi hs hf hr (fun c a w h => hQ c a _ _ w h) hy hS h

/-! ## Equal encodings -/
instance : DecidableEq Tg := fun a b => decidable_of_iff _ (sameT_iff a b)
theorem beq_dec {α : Type} [BEq α] [LawfulBEq α] [DecidableEq α] (a b : α) : (a == b) = decide (a = b) := by
  rw [Bool.eq_iff_iff]; simp
theorem sameT_dec (a b : Tg) : sameT a b = decide (a = b) := by
  rw [Bool.eq_iff_iff, sameT_iff, decide_eq_true_iff]
theorem putT_only {t : Tg} (h0 : 0 ≤ t.k) (h4 : t.k ≤ 4) : putT (onlyT t) = putT t := by
  obtain ⟨k, n, b, d, l⟩ := t
  simp only at h0 h4
  have hk : k = 0 ∨ k = 1 ∨ k = 2 ∨ k = 3 ∨ k = 4 := by omega
  rcases hk with rfl | rfl | rfl | rfl | rfl <;> rfl
theorem putAll_inj : ∀ (l m : List Tg), (∀ t ∈ l, OkT t) → (∀ t ∈ m, OkT t) → l.map (·.k) = m.map (·.k) → putAll l = putAll m → l.map onlyT = m.map onlyT
  | [], [], _, _, _, _ => rfl
  | [], _ :: _, _, _, hk, _ => by simp at hk
  | _ :: _, [], _, _, hk, _ => by simp at hk
  | a :: l, b :: m, h1, h2, hk, hp => by
    simp only [List.map_cons, List.cons.injEq] at hk
    have e1 := getT_put (h1 a (by simp)) (putAll l)
    have e2 := getT_put (h2 b (by simp)) (putAll m)
    have hp' : putT a ++ putAll l = putT b ++ putAll m := by simpa [putAll] using hp
    rw [hp', hk.1, e2] at e1
    simp only [Prod.mk.injEq, RS.mk.injEq, and_true] at e1
    rw [List.map_cons, List.map_cons, ← e1.1, putAll_inj l m (fun t ht => h1 t (by simp [ht])) (fun t ht => h2 t (by simp [ht])) hk.2 e1.2.symm]
theorem putAll_only : ∀ (l : List Tg), (∀ t ∈ l, OkT t) → putAll (l.map onlyT) = putAll l
  | [], _ => rfl
  | a :: l, h => by
    have := putAll_only l (fun t ht => h t (by simp [ht]))
    have ha := h a (by simp)
    simp only [putAll, List.map_cons, List.flatMap_cons] at this ⊢
    rw [putT_only ha.k0 ha.k4, this]
def alB (l m : List Tg) (k : Nat) : Bool := decide (l.length = m.length) && decide ((l.take k).map onlyT = (m.take k).map onlyT)
def ksB (l m : List Tg) (k : Nat) : Bool := decide (l.length = m.length) && decide ((l.take k).map (·.k) = (m.take k).map (·.k))
theorem dec_snoc {α : Type} [DecidableEq α] (A B : List α) (a b : α) : decide (A ++ [a] = B ++ [b]) = (decide (A = B) && decide (a = b)) := by
  rw [Bool.eq_iff_iff]
  simp only [Bool.and_eq_true, decide_eq_true_eq]
  constructor
  · intro h
    have := List.append_inj' h rfl
    exact ⟨this.1, by simpa using this.2⟩
  · rintro ⟨rfl, rfl⟩; rfl
theorem alB_next {l m : List Tg} {k : Nat} {a b : Tg} (h1 : l[k]? = some a) (h2 : m[k]? = some b) : alB l m (k + 1) = (alB l m k && sameT (onlyT a) (onlyT b)) := by
  unfold alB
  rw [take_snoc h1, take_snoc h2]
  simp only [List.map_append, List.map_cons, List.map_nil]
  rw [dec_snoc, sameT_dec, Bool.and_assoc]
theorem ksB_next {l m : List Tg} {k : Nat} {a b : Tg} (h1 : l[k]? = some a) (h2 : m[k]? = some b) : ksB l m (k + 1) = (ksB l m k && decide (a.k = b.k)) := by
  unfold ksB
  rw [take_snoc h1, take_snoc h2]
  simp only [List.map_append, List.map_cons, List.map_nil]
  rw [dec_snoc, Bool.and_assoc]
/-- behind all values -/
theorem al_ks {l m : List Tg} {k : Nat} (h1 : ∀ t ∈ l, OkT t) (h2 : ∀ t ∈ m, OkT t) (hk : l.length ≤ k ∨ m.length ≤ k) (hks : ksB l m k = true) : decide (putAll l = putAll m) = alB l m k := by
  unfold ksB at hks
  simp only [Bool.and_eq_true, decide_eq_true_eq] at hks
  obtain ⟨hl, hk2⟩ := hks
  have e1 : l.take k = l := List.take_of_length_le (by omega)
  have e2 : m.take k = m := List.take_of_length_le (by omega)
  unfold alB
  rw [e1, e2] at hk2 ⊢
  rw [decide_eq_true hl, Bool.true_and, Bool.eq_iff_iff, decide_eq_true_iff, decide_eq_true_iff]
  constructor
  · exact putAll_inj l m h1 h2 hk2
  · intro h
    rw [← putAll_only l h1, ← putAll_only m h2, h]

/-- the walk's first loop -/
def InjI (w : World) (l m : List Tg) (a b i : Value) (wr : World) : Prop :=
  ∃ k : Nat, k ≤ l.length ∧ k ≤ m.length ∧ i = .int .i64 k ∧ a = .bool (alB l m k) ∧ b = .bool (ksB l m k) ∧ Same w wr

set_option maxRecDepth 100000 in
set_option maxHeartbeats 16000000 in
theorem wireInjective_walk (w : World) (B : Option Addr) (m d : Nat) (xs : List Tm) (h : Tr w (fun _ => False) B m xs) (hm : m ≤ 281474976710656) (B2 : Option Addr) (m2 d2 : Nat) (ys : List Tm) (h2 : Tr w (fun _ => False) B2 m2 ys) (hm2 : m2 ≤ 281474976710656) :
    Calls Try.prog 8 #[.slice B m d, .slice B2 m2 d2] w fun e w' => e = .returned (.bool true) ∧ Same w w' := by
  have HT := hid h
  have HT2 := hid h2
  have HF := hid (fun W (hk : Same w W) => few_any W (fun _ => False) B m d xs (h.same hk) hm)
  have HF2 := hid (fun W (hk : Same w W) => few_any W (fun _ => False) B2 m2 d2 ys (h2.same hk) hm2)
  clear h h2
  by_cases hf : fewB (xs.map Tm.pt) = true
  · by_cases hf2 : fewB (ys.map Tm.pt) = true
    · obtain ⟨hts, hsum, hm4⟩ := HT.out.ts hf
      obtain ⟨hts2, hsum2, hm42⟩ := HT2.out.ts hf2
      rw [hf] at HF
      rw [hf2] at HF2
      have hall : (putAll (xs.map Tm.pt)).length ≤ 10000 := by
        have := putAll_small (xs.map Tm.pt) (by intro t ht; simp only [List.mem_map] at ht; obtain ⟨x, hx, rfl⟩ := ht; exact hts.ok x hx)
        omega
      have hall2 : (putAll (ys.map Tm.pt)).length ≤ 10000 := by
        have := putAll_small (ys.map Tm.pt) (by intro t ht; simp only [List.mem_map] at ht; obtain ⟨x, hx, rfl⟩ := ht; exact hts2.ok x hx)
        omega
      have H := hid hts
      have H2 := hid hts2
      have hlm := hts.len
      have hlm2 := hts2.len
      have HLM := hid hlm
      have HLM2 := hid hlm2
      have HSA := hid hall
      have HSA2 := hid hall2
      have hab : ∀ b : Bool, ((m : Int) == (m2 : Int)) = b → alB (xs.map Tm.pt) (ys.map Tm.pt) 0 = b ∧ ksB (xs.map Tm.pt) (ys.map Tm.pt) 0 = b := by
        intro b hb
        have : decide ((xs.map Tm.pt).length = (ys.map Tm.pt).length) = b := by
          rw [← hb, List.length_map, List.length_map, hlm, hlm2]
          rw [Bool.eq_iff_iff]
          simp only [decide_eq_true_eq, beq_iff_eq]
          exact ⟨fun h => by omega, fun h => by omega⟩
        exact ⟨by simp only [alB, List.take_zero, List.map_nil, this, decide_true, Bool.and_true], by simp only [ksB, List.take_zero, List.map_nil, this, decide_true, Bool.and_true]⟩
      have HAB := hid hab
      clear hf hf2 hts hts2 hsum hsum2 HT HT2 hlm hlm2 hall hall2 hab
      go_enter Try.func8, Try.ntmps8
      go_wp2_with fail
      refine (awake_any w).mono ?_
      rintro e w1 ⟨rfl, hk1⟩
      have HF1 := hid (HF.out w1 hk1)
      have HK1 := hid hk1
      clear hk1 HF
      go_wp2_with fail
      refine HF1.out.mono ?_
      rintro e w2 ⟨rfl, hk2⟩
      have HK2 := hid (HK1.out.then hk2)
      have HF3 := hid (HF2.out w2 HK2.out)
      clear hk2 HF1 HF2
      go_wp2_with fail
      refine HF3.out.mono ?_
      rintro e w3 ⟨rfl, hk3⟩
      have HK3 := hid (HK2.out.then hk3)
      clear hk3 HF3
      obtain ⟨bq, hbq⟩ : ∃ bq, ((m : Int) == (m2 : Int)) = bq := ⟨_, rfl⟩
      have HI : Hid (InjI w (xs.map Tm.pt) (ys.map Tm.pt) (.bool bq) (.bool bq) (.int .i64 0) w3) := hid ⟨0, Nat.zero_le _, Nat.zero_le _, rfl, by rw [(HAB.out bq hbq).1], by rw [(HAB.out bq hbq).2], HK3.out⟩
      go_wp2
      go_loopw [5, 6, 7] (fun a b i wr => InjI w (xs.map Tm.pt) (ys.map Tm.pt) a b i wr) (fun _ _ i _ => m - (RowKit.intOf i).toNat)
      case atStart => exact HI.out
      case round =>
        obtain ⟨k, hk1, hk2, rfl, rfl, rfl, hK⟩ := hrel
        rw [List.length_map, HLM.out] at hk1
        rw [List.length_map, HLM2.out] at hk2
        by_cases hlt : k < m ∧ k < m2
        · obtain ⟨hl1, hl2⟩ := hlt
          obtain ⟨x, hx⟩ := get_some (l := xs) (k := k) (by have := HLM.out; omega)
          obtain ⟨y, hy⟩ := get_some (l := ys) (k := k) (by have := HLM2.out; omega)
          have hpx : (xs.map Tm.pt)[k]? = some x.pt := by simp [hx]
          have hpy : (ys.map Tm.pt)[k]? = some y.pt := by simp [hy]
          have hok := H.out.ok x (List.mem_of_getElem? hx)
          have hok2 := H2.out.ok y (List.mem_of_getElem? hy)
          have hel := H.out.el x (List.mem_of_getElem? hx)
          have hel2 := H2.out.el y (List.mem_of_getElem? hy)
          obtain ⟨b, off, rfl, hb, q0, q1, q2, q3, q4⟩ := (H.out.same hK).at5 hx
          obtain ⟨b2, off2, rfl, hb2, p0, p1, p2, p3, p4⟩ := (H2.out.same hK).at5 hy
          have hxm : x.m ≤ 1000000 := by have := hok.l; have := hel.len; simp only [Tm.pt] at *; omega
          have hym : y.m ≤ 1000000 := by have := hok2.l; have := hel2.len; simp only [Tm.pt] at *; omega
          have HON := hid (fun W (hk : Same w W) => only_any W (fun _ => False) x (hel.same hk) hxm hok.k0 hok.k4)
          have HON2 := hid (fun W (hk : Same w W) => only_any W (fun _ => False) y (hel2.same hk) hym hok2.k0 hok2.k4)
          have HOL := hid (show (onlyT x.pt).l.length ≤ 1000000 by
            have := hok.l
            unfold onlyT
            split
            · simp
            · split
              · simp
              · split
                · exact this
                · simp)
          have HAN := hid (alB_next hpx hpy)
          have HKN := hid (ksB_next hpx hpy)
          have hkx : x.pt.k = x.k := rfl
          have hky : y.pt.k = y.k := rfl
          rw [hkx, hky] at HKN
          have HK := hid hK
          have hr0 : (0 : Int) ≤ (k : Int) := by omega
          have hr1 : (k : Int) < (m : Int) := by omega
          have hr2 : (k : Int) < (m2 : Int) := by omega
          generalize alB (xs.map Tm.pt) (ys.map Tm.pt) k = al at *
          generalize ksB (xs.map Tm.pt) (ys.map Tm.pt) k = ks at *
          clear hx hy hpx hpy hok hok2 hel hel2 hkx hky hK hk1 hk2
          generalize x.pt = tx at *
          generalize y.pt = ty at *
          obtain ⟨kk, n1, bo, st, C, cm, cc, l⟩ := x
          obtain ⟨kk2, n2, bo2, st2, C2, cm2, cc2, l2⟩ := y
          simp only [Tm.cells] at q0 q1 q2 q3 q4 p0 p1 p2 p3 p4 HON HON2 HKN
          cases al
          · rw [Bool.false_and] at HAN
            go_wp2
            go_quiet (fail)
            generalize hwz : wr.drewN _ = wz
            have HK7 := hid (show Same wr wz by rw [← hwz]; exact (Keep.refl _ wr).drewN _)
            clear hwz
            have u0 : wz.cell? ⟨b, off + k * 5, none⟩ = some (.int .i64 kk) := (HK7.out.cell (p := ⟨b, off + k * 5, none⟩) hb (fun f => f)).trans q0
            have u1 : wz.cell? ⟨b2, off2 + k * 5, none⟩ = some (.int .i64 kk2) := (HK7.out.cell (p := ⟨b2, off2 + k * 5, none⟩) hb2 (fun f => f)).trans p0
            clear q0 q1 q2 q3 q4 p0 p1 p2 p3 p4
            cases ks
            · rw [Bool.false_and] at HKN
              go_wp2
              go_quiet (fail)
              go_wp2
              go_roundw
              case rel => exact ⟨k + 1, by rw [List.length_map, HLM.out]; omega, by rw [List.length_map, HLM2.out]; omega, by go_num, by rw [HAN.out], by rw [HKN.out], (HK.out.then HK7.out).drewN _⟩
              case measure => simp [RowKit.intOf]; omega
            · rw [Bool.true_and] at HKN
              go_wp2
              go_quiet (fail)
              go_wp2
              go_roundw
              case rel => exact ⟨k + 1, by rw [List.length_map, HLM.out]; omega, by rw [List.length_map, HLM2.out]; omega, by go_num, by rw [HAN.out], by rw [HKN.out]; congr 1, (HK.out.then HK7.out).drewN _⟩
              case measure => simp [RowKit.intOf]; omega
          · rw [Bool.true_and] at HAN
            have HONa := hid (HON.out wr.drew HK.out.drew)
            go_wp2
            refine wp_region_held_drew (S := fun W => W.cell? ⟨b, off + k * 5, none⟩ = some (.int .i64 kk) ∧ W.cell? ⟨b, off + k * 5 + 1, none⟩ = some (.int .i64 n1) ∧ W.cell? ⟨b, off + k * 5 + 2, none⟩ = some (.bool bo) ∧ W.cell? ⟨b, off + k * 5 + 3, none⟩ = some (.string st) ∧ W.cell? ⟨b, off + k * 5 + 4, none⟩ = some (.slice C cm cc) ∧ W.cell? ⟨b2, off2 + k * 5, none⟩ = some (.int .i64 kk2) ∧ W.cell? ⟨b2, off2 + k * 5 + 1, none⟩ = some (.int .i64 n2) ∧ W.cell? ⟨b2, off2 + k * 5 + 2, none⟩ = some (.bool bo2) ∧ W.cell? ⟨b2, off2 + k * 5 + 3, none⟩ = some (.string st2) ∧ W.cell? ⟨b2, off2 + k * 5 + 4, none⟩ = some (.slice C2 cm2 cc2)) (by kernel_rfl) ⟨q0, q1, q2, q3, q4, p0, p1, p2, p3, p4⟩ (fun hHeld => ?_)
            refine takeO (i := 0) (v := ?_) (by kernel_rfl) (by kernel_rfl) (by kernel_rfl) (fun c a d v w h => by cases d <;> exact h) (oi := ?_) ?_ ?_ (by assumption) ?_
            rotate_left 2
            · (simp only [List.getElem?_toArray, List.getElem?_cons_zero]; rfl)
            · (refine Or.inl ⟨by rfl, ?_⟩; intro w hSw; (try dsimp only at hSw); go_simp; try with_reducible rfl)
            try simp only [Act.put, List.setIfInBounds_toArray, List.set_cons_zero, List.set_cons_succ]
            refine takeO (i := 1) (v := ?_) (by kernel_rfl) (by kernel_rfl) (by kernel_rfl) (fun c a d v w h => by cases d <;> exact h) (oi := ?_) ?_ ?_ (by assumption) ?_
            rotate_left 2
            · (simp only [List.getElem?_toArray, List.getElem?_cons_succ, List.getElem?_cons_zero]; rfl)
            · (refine Or.inl ⟨by rfl, ?_⟩; intro w hSw; (try dsimp only at hSw); go_simp; try with_reducible rfl)
            try simp only [Act.put, List.setIfInBounds_toArray, List.set_cons_zero, List.set_cons_succ]
            refine takeO (i := 2) (v := ?_) (by kernel_rfl) (by kernel_rfl) (by kernel_rfl) (fun c a d v w h => by cases d <;> exact h) (oi := ?_) ?_ ?_ (by assumption) ?_
            rotate_left 2
            · (simp only [List.getElem?_toArray, List.getElem?_cons_succ, List.getElem?_cons_zero]; rfl)
            · (refine Or.inl ⟨by rfl, ?_⟩; intro w hSw; (try dsimp only at hSw); go_simp; try with_reducible rfl)
            try simp only [Act.put, List.setIfInBounds_toArray, List.set_cons_zero, List.set_cons_succ]
            refine takeO (i := 3) (v := ?_) (by kernel_rfl) (by kernel_rfl) (by kernel_rfl) (fun c a d v w h => by cases d <;> exact h) (oi := ?_) ?_ ?_ (by assumption) ?_
            rotate_left 2
            · (simp only [List.getElem?_toArray, List.getElem?_cons_succ, List.getElem?_cons_zero]; rfl)
            · (refine Or.inl ⟨by rfl, ?_⟩; intro w hSw; (try dsimp only at hSw); go_simp; try with_reducible rfl)
            try simp only [Act.put, List.setIfInBounds_toArray, List.set_cons_zero, List.set_cons_succ]
            refine takeO (i := 4) (v := ?_) (by kernel_rfl) (by kernel_rfl) (by kernel_rfl) (fun c a d v w h => by cases d <;> exact h) (oi := ?_) ?_ ?_ (by assumption) ?_
            rotate_left 2
            · (simp only [List.getElem?_toArray, List.getElem?_cons_succ, List.getElem?_cons_zero]; rfl)
            · (refine Or.inl ⟨by rfl, ?_⟩; intro w hSw; (try dsimp only at hSw); go_simp; try with_reducible rfl)
            try simp only [Act.put, List.setIfInBounds_toArray, List.set_cons_zero, List.set_cons_succ]
            refine takeO (i := 5) (v := ?_) (by kernel_rfl) (by kernel_rfl) (by kernel_rfl) (fun c a d v w h => by cases d <;> exact h) (oi := ?_) ?_ ?_ (by assumption) ?_
            rotate_left 2
            · (simp only [List.getElem?_toArray, List.getElem?_cons_succ, List.getElem?_cons_zero]; rfl)
            · (refine Or.inl ⟨by rfl, ?_⟩; intro w hSw; (try dsimp only at hSw); go_simp; try with_reducible rfl)
            try simp only [Act.put, List.setIfInBounds_toArray, List.set_cons_zero, List.set_cons_succ]
            refine takeO (i := 7) (v := ?_) (by kernel_rfl) (by kernel_rfl) (by kernel_rfl) (fun c a d v w h => by cases d <;> exact h) (oi := ?_) ?_ ?_ (by assumption) ?_
            rotate_left 2
            · (simp only [List.getElem?_toArray, List.getElem?_cons_succ, List.getElem?_cons_zero]; rfl)
            · (refine Or.inl ⟨by rfl, ?_⟩; intro w hSw; (try dsimp only at hSw); go_simp; try with_reducible rfl)
            try simp only [Act.put, List.setIfInBounds_toArray, List.set_cons_zero, List.set_cons_succ]
            refine takeO (i := 8) (v := ?_) (by kernel_rfl) (by kernel_rfl) (by kernel_rfl) (fun c a d v w h => by cases d <;> exact h) (oi := ?_) ?_ ?_ (by assumption) ?_
            rotate_left 2
            · (simp only [List.getElem?_toArray, List.getElem?_cons_succ, List.getElem?_cons_zero]; rfl)
            · (refine Or.inl ⟨by rfl, ?_⟩; intro w hSw; (try dsimp only at hSw); go_simp; try with_reducible rfl)
            try simp only [Act.put, List.setIfInBounds_toArray, List.set_cons_zero, List.set_cons_succ]
            refine takeO (i := 9) (v := ?_) (by kernel_rfl) (by kernel_rfl) (by kernel_rfl) (fun c a d v w h => by cases d <;> exact h) (oi := ?_) ?_ ?_ (by assumption) ?_
            rotate_left 2
            · (simp only [List.getElem?_toArray, List.getElem?_cons_succ, List.getElem?_cons_zero]; rfl)
            · (refine Or.inl ⟨by rfl, ?_⟩; intro w hSw; (try dsimp only at hSw); go_simp; try with_reducible rfl)
            try simp only [Act.put, List.setIfInBounds_toArray, List.set_cons_zero, List.set_cons_succ]
            refine takeO (i := 10) (v := ?_) (by kernel_rfl) (by kernel_rfl) (by kernel_rfl) (fun c a d v w h => by cases d <;> exact h) (oi := ?_) ?_ ?_ (by assumption) ?_
            rotate_left 2
            · (simp only [List.getElem?_toArray, List.getElem?_cons_succ, List.getElem?_cons_zero]; rfl)
            · (refine Or.inl ⟨by rfl, ?_⟩; intro w hSw; (try dsimp only at hSw); go_simp; try with_reducible rfl)
            try simp only [Act.put, List.setIfInBounds_toArray, List.set_cons_zero, List.set_cons_succ]
            refine wpAnyH_ready (rs := [6]) (by kernel_rfl) (by simp) ?_
            refine AllReadyH.cons rfl (fun K hK => ?_) AllReadyH.nil
            go_simp
            refine (HONa.out).mono ?_
            rintro e w5 ⟨z1, rfl, hz1, hzm1, hzo1, hk5⟩
            have hk5' := ((Keep.refl (fun _ => False) wr).drew).then hk5
            have HK5 := hid hk5'
            have HZ1 := hid hz1
            have HZO1 := hid hzo1
            have HONb := hid (HON2.out w5 (HK.out.then hk5'))
            clear hz1 hzo1 hk5 hk5'
            refine hK.out _ _ ⟨(HK5.out.cell (p := ⟨b, off + k * 5, none⟩) hb (fun f => f)).trans q0, (HK5.out.cell (p := ⟨b, off + k * 5 + 1, none⟩) hb (fun f => f)).trans q1, (HK5.out.cell (p := ⟨b, off + k * 5 + 2, none⟩) hb (fun f => f)).trans q2, (HK5.out.cell (p := ⟨b, off + k * 5 + 3, none⟩) hb (fun f => f)).trans q3, (HK5.out.cell (p := ⟨b, off + k * 5 + 4, none⟩) hb (fun f => f)).trans q4, (HK5.out.cell (p := ⟨b2, off2 + k * 5, none⟩) hb2 (fun f => f)).trans p0, (HK5.out.cell (p := ⟨b2, off2 + k * 5 + 1, none⟩) hb2 (fun f => f)).trans p1, (HK5.out.cell (p := ⟨b2, off2 + k * 5 + 2, none⟩) hb2 (fun f => f)).trans p2, (HK5.out.cell (p := ⟨b2, off2 + k * 5 + 3, none⟩) hb2 (fun f => f)).trans p3, (HK5.out.cell (p := ⟨b2, off2 + k * 5 + 4, none⟩) hb2 (fun f => f)).trans p4⟩ (fun hHeld1 => ?_)
            clear hK K
            try simp only [Act.put, List.setIfInBounds_toArray, List.set_cons_zero, List.set_cons_succ]
            refine wpAnyH_ready (rs := [11]) (by kernel_rfl) (by simp) ?_
            refine AllReadyH.cons rfl (fun K hK => ?_) AllReadyH.nil
            go_simp
            refine (HONb.out).mono ?_
            rintro e w6 ⟨z2, rfl, hz2, hzm2, hzo2, hk6⟩
            have hk6' := HK5.out.then hk6
            have HK6 := hid hk6'
            have hcs := same_any w6 _ _ z1 z2 (HZO1.out.same hk6) hzo2 (by omega)
            rw [HZ1.out, hz2] at hcs
            have HCS := hid hcs
            clear hz2 hzo2 hk6 hk6' hcs
            refine hK.out _ _ ⟨(HK6.out.cell (p := ⟨b, off + k * 5, none⟩) hb (fun f => f)).trans q0, (HK6.out.cell (p := ⟨b, off + k * 5 + 1, none⟩) hb (fun f => f)).trans q1, (HK6.out.cell (p := ⟨b, off + k * 5 + 2, none⟩) hb (fun f => f)).trans q2, (HK6.out.cell (p := ⟨b, off + k * 5 + 3, none⟩) hb (fun f => f)).trans q3, (HK6.out.cell (p := ⟨b, off + k * 5 + 4, none⟩) hb (fun f => f)).trans q4, (HK6.out.cell (p := ⟨b2, off2 + k * 5, none⟩) hb2 (fun f => f)).trans p0, (HK6.out.cell (p := ⟨b2, off2 + k * 5 + 1, none⟩) hb2 (fun f => f)).trans p1, (HK6.out.cell (p := ⟨b2, off2 + k * 5 + 2, none⟩) hb2 (fun f => f)).trans p2, (HK6.out.cell (p := ⟨b2, off2 + k * 5 + 3, none⟩) hb2 (fun f => f)).trans p3, (HK6.out.cell (p := ⟨b2, off2 + k * 5 + 4, none⟩) hb2 (fun f => f)).trans p4⟩ (fun hHeld2 => ?_)
            clear hK K
            try simp only [Act.put, List.setIfInBounds_toArray, List.set_cons_zero, List.set_cons_succ]
            refine wpAnyH_ready (rs := [12]) (by kernel_rfl) (by simp) ?_
            refine AllReadyH.cons rfl (fun K hK => ?_) AllReadyH.nil
            go_simp
            refine (HCS.out).mono ?_
            rintro e w7 ⟨rfl, hk7⟩
            have HK7 := hid (HK6.out.then hk7)
            clear hk7
            refine hK.out _ _ ⟨(HK7.out.cell (p := ⟨b, off + k * 5, none⟩) hb (fun f => f)).trans q0, (HK7.out.cell (p := ⟨b, off + k * 5 + 1, none⟩) hb (fun f => f)).trans q1, (HK7.out.cell (p := ⟨b, off + k * 5 + 2, none⟩) hb (fun f => f)).trans q2, (HK7.out.cell (p := ⟨b, off + k * 5 + 3, none⟩) hb (fun f => f)).trans q3, (HK7.out.cell (p := ⟨b, off + k * 5 + 4, none⟩) hb (fun f => f)).trans q4, (HK7.out.cell (p := ⟨b2, off2 + k * 5, none⟩) hb2 (fun f => f)).trans p0, (HK7.out.cell (p := ⟨b2, off2 + k * 5 + 1, none⟩) hb2 (fun f => f)).trans p1, (HK7.out.cell (p := ⟨b2, off2 + k * 5 + 2, none⟩) hb2 (fun f => f)).trans p2, (HK7.out.cell (p := ⟨b2, off2 + k * 5 + 3, none⟩) hb2 (fun f => f)).trans p3, (HK7.out.cell (p := ⟨b2, off2 + k * 5 + 4, none⟩) hb2 (fun f => f)).trans p4⟩ (fun hHeld3 => ?_)
            clear hK K
            try simp only [Act.put, List.setIfInBounds_toArray, List.set_cons_zero, List.set_cons_succ]
            refine takeO (i := 13) (v := ?_) (by kernel_rfl) (by kernel_rfl) (by kernel_rfl) (fun c a d v w h => by cases d <;> exact h) (oi := ?_) ?_ ?_ (by assumption) ?_
            rotate_left 2
            · (simp only [List.getElem?_toArray, List.getElem?_cons_succ, List.getElem?_cons_zero]; rfl)
            · (refine Or.inl ⟨by rfl, ?_⟩; intro w hSw; (try dsimp only at hSw); go_simp; try with_reducible rfl)
            try simp only [Act.put, List.setIfInBounds_toArray, List.set_cons_zero, List.set_cons_succ]
            refine takeO (i := 14) (v := ?_) (by kernel_rfl) (by kernel_rfl) (by kernel_rfl) (fun c a d v w h => by cases d <;> exact h) (oi := ?_) ?_ ?_ (by assumption) ?_
            rotate_left 2
            · (simp only [List.getElem?_toArray, List.getElem?_cons_succ, List.getElem?_cons_zero]; rfl)
            · (refine Or.inl ⟨by rfl, ?_⟩; intro w hSw; (try dsimp only at hSw); go_simp; try with_reducible rfl)
            try simp only [Act.put, List.setIfInBounds_toArray, List.set_cons_zero, List.set_cons_succ]
            refine wpAnyH_done (by kernel_rfl) ?_ _
            have u0 : w7.cell? ⟨b, off + k * 5, none⟩ = some (.int .i64 kk) := (HK7.out.cell (p := ⟨b, off + k * 5, none⟩) hb (fun f => f)).trans q0
            have u1 : w7.cell? ⟨b2, off2 + k * 5, none⟩ = some (.int .i64 kk2) := (HK7.out.cell (p := ⟨b2, off2 + k * 5, none⟩) hb2 (fun f => f)).trans p0
            clear q0 q1 q2 q3 q4 p0 p1 p2 p3 p4
            cases ks
            · rw [Bool.false_and] at HKN
              go_wp2
              go_quiet (fail)
              go_wp2
              go_roundw
              case rel => exact ⟨k + 1, by rw [List.length_map, HLM.out]; omega, by rw [List.length_map, HLM2.out]; omega, by go_num, by rw [HAN.out], by rw [HKN.out], (HK.out.then HK7.out).drewN _⟩
              case measure => simp [RowKit.intOf]; omega
            · rw [Bool.true_and] at HKN
              go_wp2
              go_quiet (fail)
              go_wp2
              go_roundw
              case rel => exact ⟨k + 1, by rw [List.length_map, HLM.out]; omega, by rw [List.length_map, HLM2.out]; omega, by go_num, by rw [HAN.out], by rw [HKN.out]; congr 1, (HK.out.then HK7.out).drewN _⟩
              case measure => simp [RowKit.intOf]; omega
        · have hko : (xs.map Tm.pt).length ≤ k ∨ (ys.map Tm.pt).length ≤ k := by rw [List.length_map, List.length_map, HLM.out, HLM2.out]; omega
          have hokl : ∀ t ∈ xs.map Tm.pt, OkT t := by intro t ht; simp only [List.mem_map] at ht; obtain ⟨x, hx, rfl⟩ := ht; exact H.out.ok x hx
          have hokm : ∀ t ∈ ys.map Tm.pt, OkT t := by intro t ht; simp only [List.mem_map] at ht; obtain ⟨x, hx, rfl⟩ := ht; exact H2.out.ok x hx
          have HAK := hid (fun h => al_ks hokl hokm hko h)
          have HK := hid hK
          have hkd := (Keep.refl (fun _ => False) wr).drew
          have HKD := hid hkd
          have hsa := HSA.out
          have hsa2 := HSA2.out
          have HALL := hid (all_any wr.drew (fun _ => False) B m d xs (H.out.same (hK.then hkd)) (by omega) (by omega))
          have HALL2 := hid (fun W (hk : Same w W) => all_any W (fun _ => False) B2 m2 d2 ys (H2.out.same hk) (by omega) (by omega))
          have HPA := hid (fun W (hk : Same w W) => pall_any W (fun _ => False) B m d xs (H.out.same hk) (by omega) (by omega))
          have hor : ¬ (k < m) ∨ (k < m ∧ ¬ k < m2) := by omega
          clear hokl hokm hko hK hkd hlt
          generalize ksB (xs.map Tm.pt) (ys.map Tm.pt) k = ks at *
          generalize alB (xs.map Tm.pt) (ys.map Tm.pt) k = al at *
          cases ks
          · clear HALL HALL2 HAK
            rcases hor with hor | ⟨hor1, hor2⟩
            all_goals
              go_wp2
              go_quiet (fail)
              generalize hwz : wr.drewN _ = wz
              have HKz := hid (show Same w wz by rw [← hwz]; exact HK.out.drewN _)
              clear hwz
              have HI2 : Hid (AllI wz wz.heap.size (putAll ((xs.take 0).map Tm.pt)) (wz.alloc (.cells #[.slice none 0 0] 46))) := hid
                ⟨none, none, 0, ⟨by simpa [putAll] using Blk.made wz 46 #[.slice none 0 0], by simpa [putAll, bcells] using Own.nil _ 0 5 1, rfl, fun g e => by cases e⟩, (Keep.refl _ wz).alloc _, fun g e => by cases e⟩
              have Hz := hid (H.out.same HKz.out).old
              have hbound : ∀ k, (putAll ((xs.take k).map Tm.pt)).length ≤ 10000 := fun k => by
                refine Nat.le_trans ?_ hsa
                conv => rhs; rw [← List.take_append_drop k xs, List.map_append, putAll, List.flatMap_append]
                simp [putAll]
              have HBD := hid hbound
              clear hbound
              go_wp2
              go_loopw [90] (fun i wq => ∃ k : Nat, k ≤ m ∧ i = .int .i64 k ∧ AllI wz wz.heap.size (putAll ((xs.take k).map Tm.pt)) wq) (fun i _ => m - (RowKit.intOf i).toNat)
              case atStart => exact ⟨0, by omega, rfl, HI2.out⟩
              case round =>
                obtain ⟨k, hkm2, rfl, r, A, c, hW, hKq, hr⟩ := hrel
                by_cases hlt : k < m
                · obtain ⟨x, hx⟩ := get_some (l := xs) (k := k) (by have := HLM.out; omega)
                  have hT := Hz.out.same hKq
                  obtain ⟨b, off, rfl, hb, q0, q1, q2, q3, q4⟩ := hT.at5 hx
                  have hxm := List.mem_of_getElem? hx
                  have hka : Same wr (wr.alloc (.cells x.cells.toArray 33)) := (Keep.refl _ wr).alloc _
                  have HC := hid (write_any _ wz.heap.size r A c _ (hW.same hka) (Nat.le_trans (HBD.out k) (by omega)) x (((hT.el x hxm).same hka).wide (fun i _ hs => by
                    rcases hs with hs | hs
                    · omega
                    · exact hr i hs.symm)) (hT.ok x hxm))
                  have HN := hid (show putAll ((xs.take (k + 1)).map Tm.pt) = putAll ((xs.take k).map Tm.pt) ++ putT x.pt by rw [take_snoc hx, List.map_append]; exact putAll_snoc _ _)
                  have HKx := hid (hKq.then hka)
                  have HRx := hid hr
                  clear hx hT hxm hka hW hKq hr
                  obtain ⟨kk, n, bo, s, C, cm, cc, l⟩ := x
                  simp only [Tm.cells] at q0 q1 q2 q3 q4 HC HKx
                  go_wp2_with fail
                  refine HC.out.mono ?_
                  rintro e w8 ⟨r3, A3, c3, rfl, g1, g2, g3⟩
                  rw [← HN.out] at g1
                  have hr3 : ∀ g, r3 = some g → wz.heap.size ≤ g := fun g e => by
                    rcases g3 g e with h | h
                    · exact HRx.out g h
                    · exact Nat.le_trans HKx.out.size h
                  have HG1 := hid g1
                  have HR3 := hid hr3
                  have hb8 := HBD.out (k + 1)
                  have HE := hid (encoded_any w8 wz.heap.size r3 A3 c3 _ g1 (by omega))
                  have HK8 := hid (HKx.out.trans g2 (fun i hi hs => by
                        rcases hs with hs | hs
                        · omega
                        · have := HRx.out i hs.symm; omega))
                  have hlt8 := g1.lt
                  have HLT8 := hid hlt8
                  have hwb8 := g1.top.lt
                  clear g1 g2 g3 hr3 hlt8
                  generalize hpl : putAll ((xs.take (k + 1)).map Tm.pt) = bsk at *
                  have HPL := hid hpl
                  clear hpl
                  go_wp2_with fail
                  refine HE.out.mono ?_
                  rintro e w9 ⟨rfl, hB9, hk9⟩
                  generalize hbl : bsk.length = bl at *
                  have HI9 : Hid (∃ cs : List Int, cs.length = bl ∧ (∀ v ∈ cs, 0 ≤ v ∧ v ≤ 255) ∧ Blk w9 w8.heap.size 5 (cs.map (Value.int .u8)).toArray ∧ Keep (· = w8.heap.size) w9 w9) := hid ⟨bsk.map (fun b => (b.toNat : Int)), by simp [hbl], by intro v hv; simp only [List.mem_map] at hv; obtain ⟨b, _, rfl⟩ := hv; have := b.toNat_lt; omega, by rw [List.map_map]; exact hB9, Keep.refl _ _⟩
                  have HW9 := hid (HG1.out.same hk9)
                  have HK9 := hid (HK8.out.then hk9)
                  have hg9 := hB9.lt
                  have HBLl := hid hbl
                  clear hB9 hk9 HE hbl
                  go_wp2
                  generalize hg : w8.heap.size = g at *
                  clear hg
                  go_loopw [99] (fun i wq => ∃ j : Nat, j ≤ bl ∧ i = .int .i64 j ∧ ∃ cs : List Int, cs.length = bl ∧ (∀ v ∈ cs, 0 ≤ v ∧ v ≤ 255) ∧ Blk wq g 5 (cs.map (Value.int .u8)).toArray ∧ Keep (· = g) w9 wq) (fun i _ => bl - (RowKit.intOf i).toNat)
                  case atStart => exact ⟨0, by omega, rfl, HI9.out⟩
                  case round =>
                    obtain ⟨j, hjb, rfl, cs, hcl, hcv, hBq, hKq⟩ := hrel
                    by_cases hj : j < bl
                    · obtain ⟨v, hv⟩ := get_some (l := cs) (k := j) (by omega)
                      obtain ⟨hv0, hv1⟩ := hcv v (List.mem_of_getElem? hv)
                      have cj : wr.cell? ⟨g, j, none⟩ = some (.int .u8 v) := by rw [hBq.at_ j]; simp [hv]
                      have fj := hBq.free j
                      have hwv := bounds_u8 (wf_wrap IntKind.u8 (v + 1))
                      obtain ⟨u, hu⟩ : ∃ u, IntKind.u8.wrap (v + 1) = u := ⟨_, rfl⟩
                      rw [hu] at hwv
                      have HCL := hid hcl
                      have HCV := hid hcv
                      have HBQ := hid hBq
                      have HKQ := hid hKq
                      have HWV := hid hwv
                      have hji : (0 : Int) ≤ j := by omega
                      clear hcl hcv hBq hKq hv hwv
                      go_wp2
                      go_roundw
                      case rel =>
                        refine ⟨j + 1, by omega, by go_num, cs.set j u, by simp [HCL.out], ?_, ?_, HKQ.out.put j (.int .u8 u)⟩
                        · intro z hz
                          rcases List.mem_or_eq_of_mem_set hz with h | h
                          · exact HCV.out z h
                          · subst h; exact HWV.out
                        · have := HBQ.out.put j (.int .u8 u)
                          rw [List.setIfInBounds_toArray] at this
                          rwa [List.map_set]
                      case measure => simp [RowKit.intOf]; omega
                    · have HQ : Hid (AllI wz wz.heap.size bsk wr) := hid ⟨r3, A3, c3, HW9.out.keep hKq (by omega) (fun g' e => by have := HLT8.out g' e; omega), HK9.out.trans hKq (fun i hi e => by have := HK8.out.size; omega), HR3.out⟩
                      clear hcl hcv hBq hKq
                      go_wp2
                      go_roundw
                      case rel => exact ⟨k + 1, by omega, by go_num, by rw [HPL.out]; exact HQ.out⟩
                      case measure => simp [RowKit.intOf]; omega
                · have e1 : xs.take k = xs := List.take_of_length_le (by have := HLM.out; omega)
                  rw [e1] at hW
                  have hkd := (Keep.refl (fun _ => False) wr).drew
                  have HC := hid (encoded_any wr.drew wz.heap.size r A c _ (hW.same hkd) (by omega))
                  have HPA2 := hid (fun W (hk : Same wr W) => HPA.out W ((HKz.out.then hKq).then hk))
                  have HKf := hid (HKz.out.then hKq)
                  have HKD2 := hid hkd
                  clear hW hKq hr e1 hkd
                  generalize putAll (xs.map Tm.pt) = bsx at *
                  go_wp2
                  go_region_law (first
                    | (go_simp
                       go_at_call 21; (with_reducible refine HC.out.mono ?_); rintro e w8 ⟨rfl, hb8, hk8⟩
                       have hcv8 := conv_str w8 (fun _ => False) (some ⟨wr.heap.size, 0, none⟩) bsx.length bsx.length bsx (Sl.of_blk hb8 (by simp) (fun f => f))
                       have HK8 := hid (HKD2.out.then hk8)
                       have HB8 := hid hb8
                       have HP8 := hid (HPA2.out w8 HK8.out)
                       clear hb8 hk8)
                    | (go_simp
                       go_at_call 22; (with_reducible refine HP8.out.mono ?_); rintro e w9 ⟨A9, c9, rfl, ho9, hk9⟩
                       have hcv9 := conv_str w9 (fun _ => False) (some ⟨wr.heap.size, 0, none⟩) bsx.length bsx.length bsx (Sl.of_blk (HB8.out.keep hk9 (fun f => f)) (by simp) (fun f => f))
                       have hcw9 := conv_str w9 (fun _ => False) A9 bsx.length c9 bsx (ho9.sl (fun _ _ f => f))
                       have HK9 := hid (HKf.out.then (HK8.out.then hk9))
                       clear ho9 hk9))
                  all_goals
                    go_wp2
                    go_ret
                    exact ⟨rfl, HK9.out⟩
          · have hak := HAK.out rfl
            have hse : decide ((strOf (putAll (xs.map Tm.pt))).toList = (strOf (putAll (ys.map Tm.pt))).toList) = al := by
              rw [ByteArray.toList_eq, ByteArray.toList_eq, strOf_list, strOf_list]; exact hak
            have HSE := hid hse
            have hse2 := HSE.out
            have hval : (!(((strOf (putAll (xs.map Tm.pt))).toList == (strOf (putAll (ys.map Tm.pt))).toList) == al)) = false := by
              have hbe : ((strOf (putAll (xs.map Tm.pt))).toList == (strOf (putAll (ys.map Tm.pt))).toList) = al := by
                rw [beq_dec]; exact hse2
              rw [hbe]; cases al <;> rfl
            have HVAL := hid hval
            clear hval hse2
            have hHK := HK.out
            clear hak hse HAK
            rcases hor with hor | ⟨hor1, hor2⟩
            all_goals
              go_wp2
              go_region_law (first
                | (go_simp
                   go_at_call 17; (with_reducible refine HALL.out.mono ?_); rintro e w5 ⟨g5, rfl, hg5, ho5, hk5⟩
                   have HK5 := hid (HK.out.then (HKD.out.then hk5))
                   have HO5 := hid ho5
                   have HALLb := hid (HALL2.out w5 HK5.out)
                   have hcv5 := conv_str w5 (fun _ => False) (some ⟨g5, 0, none⟩) (putAll (xs.map Tm.pt)).length (putAll (xs.map Tm.pt)).length (putAll (xs.map Tm.pt)) (Sl.of_blk ho5 (by simp) (fun f => f))
                   clear ho5 hk5)
                | (go_simp
                   go_at_call 17; (with_reducible refine HALLb.out.mono ?_); rintro e w6 ⟨g6, rfl, hg6, ho6, hk6⟩
                   have HK6 := hid (HK5.out.then hk6)
                   have hcv6 := conv_str w6 (fun _ => False) (some ⟨g6, 0, none⟩) (putAll (ys.map Tm.pt)).length (putAll (ys.map Tm.pt)).length (putAll (ys.map Tm.pt)) (Sl.of_blk ho6 (by simp) (fun f => f))
                   have hcw6 := conv_str w6 (fun _ => False) (some ⟨g5, 0, none⟩) (putAll (xs.map Tm.pt)).length (putAll (xs.map Tm.pt)).length (putAll (xs.map Tm.pt)) (Sl.of_blk (HO5.out.keep hk6 (fun f => f)) (by simp) (fun f => f))
                   clear ho6 hk6))
              all_goals
                rw [HVAL.out]
                have HKz := HK6
                clear hcv6 hcw6
                generalize w6 = wz at HKz ⊢
                have HI2 : Hid (AllI wz wz.heap.size (putAll ((xs.take 0).map Tm.pt)) (wz.alloc (.cells #[.slice none 0 0] 46))) := hid
                  ⟨none, none, 0, ⟨by simpa [putAll] using Blk.made wz 46 #[.slice none 0 0], by simpa [putAll, bcells] using Own.nil _ 0 5 1, rfl, fun g e => by cases e⟩, (Keep.refl _ wz).alloc _, fun g e => by cases e⟩
                have Hz := hid (H.out.same HKz.out).old
                have hbound : ∀ k, (putAll ((xs.take k).map Tm.pt)).length ≤ 10000 := fun k => by
                  refine Nat.le_trans ?_ hsa
                  conv => rhs; rw [← List.take_append_drop k xs, List.map_append, putAll, List.flatMap_append]
                  simp [putAll]
                have HBD := hid hbound
                clear hbound
                go_wp2
                go_loopw [90] (fun i wq => ∃ k : Nat, k ≤ m ∧ i = .int .i64 k ∧ AllI wz wz.heap.size (putAll ((xs.take k).map Tm.pt)) wq) (fun i _ => m - (RowKit.intOf i).toNat)
                case atStart => exact ⟨0, by omega, rfl, HI2.out⟩
                case round =>
                  obtain ⟨k, hkm2, rfl, r, A, c, hW, hKq, hr⟩ := hrel
                  by_cases hlt : k < m
                  · obtain ⟨x, hx⟩ := get_some (l := xs) (k := k) (by have := HLM.out; omega)
                    have hT := Hz.out.same hKq
                    obtain ⟨b, off, rfl, hb, q0, q1, q2, q3, q4⟩ := hT.at5 hx
                    have hxm := List.mem_of_getElem? hx
                    have hka : Same wr (wr.alloc (.cells x.cells.toArray 33)) := (Keep.refl _ wr).alloc _
                    have HC := hid (write_any _ wz.heap.size r A c _ (hW.same hka) (Nat.le_trans (HBD.out k) (by omega)) x (((hT.el x hxm).same hka).wide (fun i _ hs => by
                      rcases hs with hs | hs
                      · omega
                      · exact hr i hs.symm)) (hT.ok x hxm))
                    have HN := hid (show putAll ((xs.take (k + 1)).map Tm.pt) = putAll ((xs.take k).map Tm.pt) ++ putT x.pt by rw [take_snoc hx, List.map_append]; exact putAll_snoc _ _)
                    have HKx := hid (hKq.then hka)
                    have HRx := hid hr
                    clear hx hT hxm hka hW hKq hr
                    obtain ⟨kk, n, bo, s, C, cm, cc, l⟩ := x
                    simp only [Tm.cells] at q0 q1 q2 q3 q4 HC HKx
                    go_wp2_with fail
                    refine HC.out.mono ?_
                    rintro e w8 ⟨r3, A3, c3, rfl, g1, g2, g3⟩
                    rw [← HN.out] at g1
                    have hr3 : ∀ g, r3 = some g → wz.heap.size ≤ g := fun g e => by
                      rcases g3 g e with h | h
                      · exact HRx.out g h
                      · exact Nat.le_trans HKx.out.size h
                    have HG1 := hid g1
                    have HR3 := hid hr3
                    have hb8 := HBD.out (k + 1)
                    have HE := hid (encoded_any w8 wz.heap.size r3 A3 c3 _ g1 (by omega))
                    have HK8 := hid (HKx.out.trans g2 (fun i hi hs => by
                          rcases hs with hs | hs
                          · omega
                          · have := HRx.out i hs.symm; omega))
                    have hlt8 := g1.lt
                    have HLT8 := hid hlt8
                    have hwb8 := g1.top.lt
                    clear g1 g2 g3 hr3 hlt8
                    generalize hpl : putAll ((xs.take (k + 1)).map Tm.pt) = bsk at *
                    have HPL := hid hpl
                    clear hpl
                    go_wp2_with fail
                    refine HE.out.mono ?_
                    rintro e w9 ⟨rfl, hB9, hk9⟩
                    generalize hbl : bsk.length = bl at *
                    have HI9 : Hid (∃ cs : List Int, cs.length = bl ∧ (∀ v ∈ cs, 0 ≤ v ∧ v ≤ 255) ∧ Blk w9 w8.heap.size 5 (cs.map (Value.int .u8)).toArray ∧ Keep (· = w8.heap.size) w9 w9) := hid ⟨bsk.map (fun b => (b.toNat : Int)), by simp [hbl], by intro v hv; simp only [List.mem_map] at hv; obtain ⟨b, _, rfl⟩ := hv; have := b.toNat_lt; omega, by rw [List.map_map]; exact hB9, Keep.refl _ _⟩
                    have HW9 := hid (HG1.out.same hk9)
                    have HK9 := hid (HK8.out.then hk9)
                    have hg9 := hB9.lt
                    have HBLl := hid hbl
                    clear hB9 hk9 HE hbl
                    go_wp2
                    generalize hg : w8.heap.size = g at *
                    clear hg
                    go_loopw [99] (fun i wq => ∃ j : Nat, j ≤ bl ∧ i = .int .i64 j ∧ ∃ cs : List Int, cs.length = bl ∧ (∀ v ∈ cs, 0 ≤ v ∧ v ≤ 255) ∧ Blk wq g 5 (cs.map (Value.int .u8)).toArray ∧ Keep (· = g) w9 wq) (fun i _ => bl - (RowKit.intOf i).toNat)
                    case atStart => exact ⟨0, by omega, rfl, HI9.out⟩
                    case round =>
                      obtain ⟨j, hjb, rfl, cs, hcl, hcv, hBq, hKq⟩ := hrel
                      by_cases hj : j < bl
                      · obtain ⟨v, hv⟩ := get_some (l := cs) (k := j) (by omega)
                        obtain ⟨hv0, hv1⟩ := hcv v (List.mem_of_getElem? hv)
                        have cj : wr.cell? ⟨g, j, none⟩ = some (.int .u8 v) := by rw [hBq.at_ j]; simp [hv]
                        have fj := hBq.free j
                        have hwv := bounds_u8 (wf_wrap IntKind.u8 (v + 1))
                        obtain ⟨u, hu⟩ : ∃ u, IntKind.u8.wrap (v + 1) = u := ⟨_, rfl⟩
                        rw [hu] at hwv
                        have HCL := hid hcl
                        have HCV := hid hcv
                        have HBQ := hid hBq
                        have HKQ := hid hKq
                        have HWV := hid hwv
                        have hji : (0 : Int) ≤ j := by omega
                        clear hcl hcv hBq hKq hv hwv
                        go_wp2
                        go_roundw
                        case rel =>
                          refine ⟨j + 1, by omega, by go_num, cs.set j u, by simp [HCL.out], ?_, ?_, HKQ.out.put j (.int .u8 u)⟩
                          · intro z hz
                            rcases List.mem_or_eq_of_mem_set hz with h | h
                            · exact HCV.out z h
                            · subst h; exact HWV.out
                          · have := HBQ.out.put j (.int .u8 u)
                            rw [List.setIfInBounds_toArray] at this
                            rwa [List.map_set]
                        case measure => simp [RowKit.intOf]; omega
                      · have HQ : Hid (AllI wz wz.heap.size bsk wr) := hid ⟨r3, A3, c3, HW9.out.keep hKq (by omega) (fun g' e => by have := HLT8.out g' e; omega), HK9.out.trans hKq (fun i hi e => by have := HK8.out.size; omega), HR3.out⟩
                        clear hcl hcv hBq hKq
                        go_wp2
                        go_roundw
                        case rel => exact ⟨k + 1, by omega, by go_num, by rw [HPL.out]; exact HQ.out⟩
                        case measure => simp [RowKit.intOf]; omega
                  · have e1 : xs.take k = xs := List.take_of_length_le (by have := HLM.out; omega)
                    rw [e1] at hW
                    have hkd := (Keep.refl (fun _ => False) wr).drew
                    have HC := hid (encoded_any wr.drew wz.heap.size r A c _ (hW.same hkd) (by omega))
                    have HPA2 := hid (fun W (hk : Same wr W) => HPA.out W ((HKz.out.then hKq).then hk))
                    have HKf := hid (HKz.out.then hKq)
                    have HKD2 := hid hkd
                    clear hW hKq hr e1 hkd
                    generalize putAll (xs.map Tm.pt) = bsx at *
                    go_wp2
                    go_region_law (first
                      | (go_simp
                         go_at_call 21; (with_reducible refine HC.out.mono ?_); rintro e w8 ⟨rfl, hb8, hk8⟩
                         have hcv8 := conv_str w8 (fun _ => False) (some ⟨wr.heap.size, 0, none⟩) bsx.length bsx.length bsx (Sl.of_blk hb8 (by simp) (fun f => f))
                         have HK8 := hid (HKD2.out.then hk8)
                         have HB8 := hid hb8
                         have HP8 := hid (HPA2.out w8 HK8.out)
                         clear hb8 hk8)
                      | (go_simp
                         go_at_call 22; (with_reducible refine HP8.out.mono ?_); rintro e w9 ⟨A9, c9, rfl, ho9, hk9⟩
                         have hcv9 := conv_str w9 (fun _ => False) (some ⟨wr.heap.size, 0, none⟩) bsx.length bsx.length bsx (Sl.of_blk (HB8.out.keep hk9 (fun f => f)) (by simp) (fun f => f))
                         have hcw9 := conv_str w9 (fun _ => False) A9 bsx.length c9 bsx (ho9.sl (fun _ _ f => f))
                         have HK9 := hid (HKf.out.then (HK8.out.then hk9))
                         clear ho9 hk9))
                    all_goals
                      go_wp2
                      go_ret
                      exact ⟨rfl, HK9.out⟩
    · have hf' : fewB (ys.map Tm.pt) = false := by simpa using hf2
      rw [hf'] at HF2
      rw [hf] at HF
      clear hf hf2 hf' HT HT2
      go_enter Try.func8, Try.ntmps8
      go_wp2_with fail
      refine (awake_any w).mono ?_
      rintro e w1 ⟨rfl, hk1⟩
      have HF1 := hid (HF.out w1 hk1)
      have HK1 := hid hk1
      clear hk1 HF
      go_wp2_with fail
      refine HF1.out.mono ?_
      rintro e w2 ⟨rfl, hk2⟩
      have HK2 := hid (HK1.out.then hk2)
      have HF3 := hid (HF2.out w2 HK2.out)
      clear hk2 HF1 HF2
      go_wp2_with fail
      refine HF3.out.mono ?_
      rintro e w3 ⟨rfl, hk3⟩
      have HK3 := hid (HK2.out.then hk3)
      clear hk3
      go_wp2_with fail
      refine (awake_any w3).mono ?_
      rintro e w4 ⟨rfl, hk4⟩
      go_wp2
      go_ret
      exact ⟨rfl, HK3.out.then hk4⟩
  · have hf' : fewB (xs.map Tm.pt) = false := by simpa using hf
    rw [hf'] at HF
    clear hf hf' HT HT2 HF2
    go_enter Try.func8, Try.ntmps8
    go_wp2_with fail
    refine (awake_any w).mono ?_
    rintro e w1 ⟨rfl, hk1⟩
    have HF1 := hid (HF.out w1 hk1)
    have HK1 := hid hk1
    clear hk1 HF
    go_wp2_with fail
    refine HF1.out.mono ?_
    rintro e w2 ⟨rfl, hk2⟩
    have HK2 := hid (HK1.out.then hk2)
    clear hk2
    go_wp2_with fail
    refine (awake_any w2).mono ?_
    rintro e w3 ⟨rfl, hk3⟩
    go_wp2
    go_ret
    exact ⟨rfl, HK2.out.then hk3⟩
end Go.Proofs.Ytohgclbgjdpggaa

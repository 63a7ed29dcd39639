import Derived.Test.YtnejacmmbfeneaaGenL
import Derived.Deep.RegionLaw
namespace Go.Proofs.Ytnejacmmbfeneaa
open Go.RowKit Go.PlainAid

/-- the partition while its groups are drawn -/
structure PI (w wr : World) (b r d ab : Nat) (c : CF) (x : AS) (k : Nat) (A : Option Addr) (cp : Nat) : Prop where
  res : Blk wr w.heap.size 59 #[.int .i64 0, .int .i64 0, .int .i64 0, .int .i64 0, .int .i64 0, .int .i64 0, .slice none 0 0, .slice none 0 0]
  act : Blk wr ab 59 #[.int .i64 8, .int .i64 0, .int .i64 0, .int .i64 0, .int .i64 0, .int .i64 0, .slice none 0 0, .slice A k cp]
  own : Own wr 0 3 1 (.slice A k cp) k (icellsC (grpM k x).1)
  rm : RM wr b r d c (grpM k x).2
  kp : Keep (brd b r d) w wr
  ba : ∀ q, A.map (·.block) = some q → w.heap.size < q ∧ q ≠ ab
def PIx (w wr : World) (b r d ab : Nat) (c : CF) (x : AS) (k : Nat) : Prop := ∃ A cp, PI w wr b r d ab c x k A cp
theorem grpM_flip (x : AS) : ∀ k, grpM k x.flip = ((grpM k x).1, (grpM k x).2.flip)
  | 0 => rfl
  | k + 1 => by
    have h := grpM_flip x k
    rw [grpM, h]
    rfl
def grpA2 (A : Option Addr) (cp : Nat) (l : List Int) : AC := ⟨8, 0, 0, 0, 0, 0, none, 0, [], A, cp, l⟩
theorem grpA2_ok {W : World} {B cp : Nat} {A : Option Addr} {l : List Int} (ho : Own W 0 3 1 (.slice A l.length cp) l.length (icellsC l)) (hb : ∀ q, A.map (·.block) = some q → B < q) (hl : l.length ≤ 1000) : AcK W (· < B) (grpA2 A cp l) := by
  have h1 := (ho.rebase (base' := B) (fun g hg => by rw [ownB] at hg; exact Nat.le_of_lt (hb g hg))).slN
  exact ⟨Sl.nil _ _ _ _, fun s hs => by simp [grpA2] at hs, h1, by simp [grpA2], by simp only [grpA2]; omega⟩
theorem grpM_di (x : AS) : ∀ k, (grpM k x).2.di = x.di ∧ (grpM k x).2.sp = x.sp ∧ (grpM k x).2.dn = x.dn ∧ (grpM k x).2.l = x.l
  | 0 => ⟨rfl, rfl, rfl, rfl⟩
  | k + 1 => grpM_di x k
section
variable {w w' : World} {b r d : Nat} {c : CF} {x : AS}
def partM (p : Nat) (x : AS) : AS := if x.sp = true then (x.add ⟨9, 0, 0, 0, 0, 0, [], []⟩).flip else ((grpM p x).2.add ⟨8, 0, 0, 0, 0, 0, [], (grpM p x).1⟩).flip
set_option maxRecDepth 100000 in
set_option maxHeartbeats 8000000 in
theorem rparted_any (h : RM w b r d c x) (hc1 : 1 ≤ c.cen) (hc2 : c.cen ≤ 9) (hu : (c.uni.length : Int) ≤ 256) : Calls Try.prog 54 #[.pointer (some ⟨b, 0, none⟩)] w (ActPost w b r d c (partM (placesN c).toNat x)) := by
  have HY := hid (show ∀ u, x.sp = u → partM (placesN c).toNat x = if u = true then (x.add ⟨9, 0, 0, 0, 0, 0, [], []⟩).flip else ((grpM (placesN c).toNat x).2.add ⟨8, 0, 0, 0, 0, 0, [], (grpM (placesN c).toNat x).1⟩).flip from fun u hu => by rw [partM, hu])
  have HEP := hid (fun W => places_any W c hc1 hc2 hu)
  have hpb : 1 ≤ placesN c ∧ placesN c ≤ 266 := by simp only [placesN]; omega
  obtain ⟨p, hp⟩ : ∃ p : Nat, placesN c = p := ⟨(placesN c).toNat, by omega⟩
  simp only [hp, Int.toNat_natCast] at HEP HY
  simp only [CF.cells] at HEP
  have hp1 : 1 ≤ p := by omega
  have hp2 : p ≤ 266 := by omega
  have HPP := hid (show (placesN c).toNat = p by omega)
  rw [HPP.out]
  clear hp hpb
  have HM0 := hid h
  have HLT := hid h.lts
  have HR := hid (Blk.made w 59 #[.int .i64 0, .int .i64 0, .int .i64 0, .int .i64 0, .int .i64 0, .int .i64 0, .slice none 0 0, .slice none 0 0])
  have HK := hid ((Keep.refl (brd b r d) w).alloc (.cells #[.int .i64 0, .int .i64 0, .int .i64 0, .int .i64 0, .int .i64 0, .int .i64 0, .slice none 0 0, .slice none 0 0] 59))
  have HM := hid (h.same ((Keep.refl (fun _ => False) w).alloc (.cells #[.int .i64 0, .int .i64 0, .int .i64 0, .int .i64 0, .int .i64 0, .int .i64 0, .slice none 0 0, .slice none 0 0] 59)))
  clear h
  go_enter Try.func54, Try.ntmps54
  go_upto_region 1 with fail
  generalize w.alloc (.cells #[.int .i64 0, .int .i64 0, .int .i64 0, .int .i64 0, .int .i64 0, .int .i64 0, .slice none 0 0, .slice none 0 0] 59) = w1 at *
  obtain ⟨t0, t1, t2, t3, t4, t5, t6, t7, t8, t9, t10, t11, t12, t13, t14, t15, td, ts, tw, tf, tl⟩ := HM.out.rc
  cases hs : x.sp
  · have HE := hid (HY.out false hs)
    have HSP := hid hs
    rw [hs] at ts
    clear hs
    go_upto_region 2 with fail
    have hkp := (Keep.refl (· = b) w1).put 17 (.bool true)
    have HM9 := hid (HM.out.flipped (u := true) (by rw [HSP.out]; rfl))
    have HK9 := hid (HK.out.trans (hkp.wide (T := brd b r d) (fun i _ e => .inl e)) (fun _ _ e => e))
    have HR9 := hid (HR.out.keep hkp (fun e => by have := HLT.out; omega))
    clear HM HK HR hkp
    clear t0 t1 t2 t3 t4 t5 t6 t7 t8 t9 t10 t11 t12 t13 t14 t15 td ts tw tf tl
    have HM := HM9
    have HK := HK9
    have HR := HR9
    clear HM9 HK9 HR9
    generalize w1.setCell ⟨b, 17, none⟩ (.bool true) = w2 at *
    have HSV := hid (show x.flip.sp = true by rw [AS.flip]; simp only; rw [HSP.out]; rfl)
    obtain ⟨t0, t1, t2, t3, t4, t5, t6, t7, t8, t9, t10, t11, t12, t13, t14, t15, td, ts, tw, tf, tl⟩ := HM.out.rc
    rw [HSV.out] at ts
    go_upto_region 5 with fail
    have HW4 := hid (show w.heap.size + 1 ≤ w2.heap.size from HR.out.lt)
    have hss := (Keep.refl (fun _ => False) w2).alloc (.cells #[.int .i64 8, .int .i64 0, .int .i64 0, .int .i64 0, .int .i64 0, .int .i64 0, .slice none 0 0, .slice none 0 0] 59)
    have HPI := hid (show PIx w (w2.alloc (.cells #[.int .i64 8, .int .i64 0, .int .i64 0, .int .i64 0, .int .i64 0, .int .i64 0, .slice none 0 0, .slice none 0 0] 59)) b r d w2.heap.size c x.flip 0 from
      ⟨none, 0, HR.out.keep hss (fun f => f), Blk.made _ _ _, Own.nil _ _ _ _, HM.out.same hss, HK.out.then hss, fun q e => by simp at e⟩)
    have hab : w.heap.size < w2.heap.size := by have := HW4.out; omega
    clear hss HM HK HR HW4
    clear t0 t1 t2 t3 t4 t5 t6 t7 t8 t9 t10 t11 t12 t13 t14 t15 td ts tw tf tl
    generalize w2.alloc (.cells #[.int .i64 8, .int .i64 0, .int .i64 0, .int .i64 0, .int .i64 0, .int .i64 0, .slice none 0 0, .slice none 0 0] 59) = w3 at *
    generalize w2.heap.size = ab at *
    go_wp2_with fail
    go_loopw [4] (fun i wr => ∃ k : Nat, k ≤ p ∧ i = .int .i64 k ∧ Hid (PIx w wr b r d ab c x.flip k)) (fun i _ => p - (RowKit.intOf i).toNat)
    case atStart => exact ⟨0, by omega, rfl, HPI⟩
    case round =>
      obtain ⟨k, hk, rfl, HQ⟩ := hrel
      obtain ⟨A, cp, hpi⟩ := HQ.out
      clear HQ HPI
      have HM := hid hpi.rm
      have HI := hid hpi
      clear hpi
      obtain ⟨t0, t1, t2, t3, t4, t5, t6, t7, t8, t9, t10, t11, t12, t13, t14, t15, td, ts, tw, tf, tl⟩ := HM.out.rc
      by_cases hlt : k < p
      · have hk1 : (k : Int) < (p : Int) := by omega
        have hk0 : (0 : Int) ≤ (k : Int) := by omega
        go_upto_region 8 with (
          (with_reducible refine (HEP.out _).mono ?_)
          rintro e we ⟨rfl, hse⟩
          have HM2 := hid (HM.out.same hse)
          have HKE := hid hse
          clear hse HM
          have HM := HM2
          clear HM2
          clear t0 t1 t2 t3 t4 t5 t6 t7 t8 t9 t10 t11 t12 t13 t14 t15 td ts tw tf tl
          obtain ⟨t0, t1, t2, t3, t4, t5, t6, t7, t8, t9, t10, t11, t12, t13, t14, t15, td, ts, tw, tf, tl⟩ := HM.out.rc)
        have HB := hid (HI.out.act.keep HKE.out (fun f => f))
        have HO := hid (HI.out.own.keepB HKE.out (fun _ _ f => f))
        have HR := hid (HI.out.res.keep HKE.out (fun f => f))
        have HK := hid (HI.out.kp.then HKE.out)
        have HBA := hid HI.out.ba
        have HRL := hid (fun W (hs : Same we W) => roll_any W r _ 2 (HM.out.same hs).rng (by omega))
        have HLB := hid (show b ≠ ab ∧ r ≠ ab ∧ d ≠ ab from by have := HLT.out; omega)
        clear HI HKE
        have g7 := HB.out.at_ 7
        have gf := HB.out.free
        have gl := HB.out.lt
        have HST := hid (show (grpM (k + 1) x.flip).1 = (grpM k x.flip).1 ++ [roll 2 (grpM k x.flip).2.s] ∧ (grpM (k + 1) x.flip).2 = (grpM k x.flip).2.draw 2 from ⟨rfl, rfl⟩)
        generalize (grpM k x.flip).1 = L at *
        generalize (grpM k x.flip).2 = xk at *
        go_region_law (first
          | (
            go_simp
            go_at_call 13
            (with_reducible refine (HRL.out _ (by first | with_reducible exact Keep.refl _ _ | with_reducible exact (Keep.refl _ _).drew)).mono ?_)
            rintro e v2 ⟨rfl, hg9, hk9⟩
            have hkk : Keep (· = r) we v2 := by
              first
                | with_reducible exact hk9
                | with_reducible exact (Keep.refl _ _).drew.trans hk9 (fun _ _ e => e)
            have HM2 := hid (HM.out.draw hg9 hkk)
            have HB2 := hid (HB.out.keep hkk (fun e => by have := HLB.out; omega))
            have HO2 := hid (HO.out.keepB hkk (fun q hq e => by rw [ownB] at hq; have := HBA.out q hq; have := HLT.out; omega))
            have HR2 := hid (HR.out.keep hkk (fun e => by have := HLT.out; omega))
            have HK2 := hid (HK.out.trans hkk (fun _ _ e => .inr (.inl e)))
            have g72 := HB2.out.at_ 7
            have gf2 := HB2.out.free
            have gl2 := HB2.out.lt
            clear hg9 hk9 hkk)
          | (
            refine EInG.step2 rfl (.tmp 30) (.tmp 36) rfl (.slice A k cp) (some ⟨v2.heap.size, 0, none⟩) 1 1 rfl rfl 0 k (icellsC L) [.int .i64 (roll 2 xk.s)] (k + 1) _ rfl rfl (HO2.out.keep ((Keep.refl (fun _ => False) v2).alloc _) (fun _ _ _ f => f)) rfl (fun _ => ⟨_, rfl, src_new (w := v2) rfl⟩) (fun u hu => by simp at hu; subst hu; rfl) (by omega) (by unfold maxLen; omega) (Nat.zero_le _) ?_
            intro A7 c7 w7 ho7 hg7 hw7
            rw [ownB] at hg7 hw7
            have hk7 : Keep (fun i => A.map (·.block) = some i) v2 w7 := (((Keep.refl (fun _ => False) v2).alloc (.cells #[.int .i64 (roll 2 xk.s)] 3)).wide (fun _ _ f => f.elim)).grown hg7 (fun q e _ => e)
            have HB7 := hid (HB2.out.keep hk7 (fun e => (HBA.out ab e).2 rfl))
            have HR7 := hid (HR2.out.keep hk7 (fun e => by have := (HBA.out _ e).1; omega))
            have HM7 := hid (HM2.out.far hk7 (fun e => by have := (HBA.out _ e).1; have := HLT.out; omega) (fun e => by have := (HBA.out _ e).1; have := HLT.out; omega) (fun e => by have := (HBA.out _ e).1; have := HLT.out; omega))
            have HK7 := hid (HK2.out.trans (hk7.wide (T := fun i => w.heap.size ≤ i) (fun i _ e => by have := (HBA.out _ e).1; omega)) (fun i hi e => by omega))
            have HA7 := hid (show ∀ q, A7.map (·.block) = some q → w.heap.size < q ∧ q ≠ ab from fun q e => by
              rcases hw7 with h1 | h1
              · exact HBA.out q (by rw [← h1, e])
              · rw [World.size_alloc] at *
                rw [e] at h1
                injection h1 with h1
                have := HR2.out.lt
                have := gl2
                omega)
            have HO7 := hid ho7
            have g77 := HB7.out.at_ 7
            have gf7 := HB7.out.free
            have gl7 := HB7.out.lt
            clear ho7 hg7 hw7 hk7))
        all_goals
          have hkp := (Keep.refl (· = ab) w7).put 7 (.slice A7 (k + 1) c7)
          have hb8 := HB7.out.put 7 (.slice A7 (k + 1) c7)
          simp only [List.setIfInBounds_toArray, List.set_cons_zero, List.set_cons_succ] at hb8
          have HX := hid (show PIx w (w7.setCell ⟨ab, 7, none⟩ (.slice A7 (k + 1) c7)) b r d ab c x.flip (k + 1) from
            ⟨A7, c7, HR7.out.keep hkp (by omega), hb8, by rw [HST.out.1]; have := HO7.out.keepB hkp (fun q hq e => by rw [ownB] at hq; exact (HA7.out q hq).2 e); simpa [icellsC] using this,
              by rw [HST.out.2]; exact HM7.out.far hkp (by have := HLT.out; omega) (by have := HLT.out; omega) (by have := HLT.out; omega),
              HK7.out.trans (hkp.wide (T := fun i => w.heap.size ≤ i) (fun i _ e => by omega)) (fun i hi e => by omega), HA7.out⟩)
          clear hkp hb8
          go_wp2_with fail
          go_roundw
          case rel => exact ⟨k + 1, by omega, by go_num, HX⟩
          case measure => simp [RowKit.intOf]; omega
      · obtain rfl : p = k := by omega
        have hk1 : (p : Int) ≤ (p : Int) := by omega
        go_upto_region 9 with (
          (with_reducible refine (HEP.out _).mono ?_)
          rintro e we ⟨rfl, hse⟩
          have HM2 := hid (HM.out.same hse)
          have HKE := hid hse
          clear hse HM
          have HM := HM2
          clear HM2
          clear t0 t1 t2 t3 t4 t5 t6 t7 t8 t9 t10 t11 t12 t13 t14 t15 td ts tw tf tl
          obtain ⟨t0, t1, t2, t3, t4, t5, t6, t7, t8, t9, t10, t11, t12, t13, t14, t15, td, ts, tw, tf, tl⟩ := HM.out.rc)
        have HB := hid (HI.out.act.keep HKE.out (fun f => f))
        have HO := hid (HI.out.own.keepB HKE.out (fun _ _ f => f))
        have HR := hid (HI.out.res.keep HKE.out (fun f => f))
        have HK := hid (HI.out.kp.then HKE.out)
        have HBA := hid HI.out.ba
        clear HI HKE
        have HGF := grpM_flip x p
        have HLN := hid (grpM_len x p)
        rw [HGF] at HO HM
        simp only at HO HM
        have HE2 := hid (show partM p x = (grpM p x).2.flip.add ⟨8, 0, 0, 0, 0, 0, [], (grpM p x).1⟩ from HE.out.trans rfl)
        clear HGF HE
        generalize (grpM p x).1 = L at *
        generalize (grpM p x).2 = x4 at *
        have rr := HR.out.free
        have rlt := HR.out.lt
        have rz0 := HR.out.at_ 0
        have rz1 := HR.out.at_ 1
        have rz2 := HR.out.at_ 2
        have rz3 := HR.out.at_ 3
        have rz4 := HR.out.at_ 4
        have rz5 := HR.out.at_ 5
        have rz6 := HR.out.at_ 6
        have rz7 := HR.out.at_ 7
        have bl := HB.out.lt
        have b0 : we.cell? ⟨ab, 0, none⟩ = some (.int .i64 8) := (HB.out.at_ 0).trans rfl
        have b1 : we.cell? ⟨ab, 1, none⟩ = some (.int .i64 0) := (HB.out.at_ 1).trans rfl
        have b2 : we.cell? ⟨ab, 2, none⟩ = some (.int .i64 0) := (HB.out.at_ 2).trans rfl
        have b3 : we.cell? ⟨ab, 3, none⟩ = some (.int .i64 0) := (HB.out.at_ 3).trans rfl
        have b4 : we.cell? ⟨ab, 4, none⟩ = some (.int .i64 0) := (HB.out.at_ 4).trans rfl
        have b5 : we.cell? ⟨ab, 5, none⟩ = some (.int .i64 0) := (HB.out.at_ 5).trans rfl
        have b6 : we.cell? ⟨ab, 6, none⟩ = some (.slice none 0 0) := (HB.out.at_ 6).trans rfl
        have b7 : we.cell? ⟨ab, 7, none⟩ = some (.slice A p cp) := (HB.out.at_ 7).trans rfl
        go_wp2_with fail
        have HP := hid (Blk.put8 HR.out (.int .i64 8) (.int .i64 0) (.int .i64 0) (.int .i64 0) (.int .i64 0) (.int .i64 0) (.slice none 0 0) (.slice A p cp))
        generalize ((((((((we.setCell ⟨w.heap.size, 0, none⟩ (.int .i64 8)).setCell ⟨w.heap.size, 1, none⟩ (.int .i64 0)).setCell ⟨w.heap.size, 2, none⟩ (.int .i64 0)).setCell ⟨w.heap.size, 3, none⟩ (.int .i64 0)).setCell ⟨w.heap.size, 4, none⟩ (.int .i64 0)).setCell ⟨w.heap.size, 5, none⟩ (.int .i64 0)).setCell ⟨w.heap.size, 6, none⟩ (.slice none 0 0)).setCell ⟨w.heap.size, 7, none⟩ (.slice A p cp)) = w9 at *
        have r0 := HP.out.1.at_ 0
        have r1 := HP.out.1.at_ 1
        have r2 := HP.out.1.at_ 2
        have r3 := HP.out.1.at_ 3
        have r4 := HP.out.1.at_ 4
        have r5 := HP.out.1.at_ 5
        have r6 := HP.out.1.at_ 6
        have r7 := HP.out.1.at_ 7
        refine bodyPost_ret (v := .agg #[.int .i64 8, .int .i64 0, .int .i64 0, .int .i64 0, .int .i64 0, .int .i64 0, .slice none 0 0, .slice A p cp]) (by simp [results, Try.results54, go_sem, r0, r1, r2, r3, r4, r5, r6, r7]) rfl ?_
        exact ActPost.of (a := grpA2 A cp L) (by rw [grpA2, AC.cells]; simp only [HLN.out, List.length_nil]) (by rw [HE2.out]; rfl) HM.out HK.out HP.out.2 (Nat.le_refl _) HLT.out (grpA2_ok (by rw [HLN.out]; exact HO.out.keepB HP.out.2 (fun q hq e => by rw [ownB] at hq; have := (HBA.out q hq).1; omega)) (fun q e => (HBA.out q e).1) (by rw [HLN.out]; omega))
  · have HE := hid (HY.out true hs)
    have HSP := hid hs
    rw [hs] at ts
    clear hs
    go_upto_region 2 with fail
    have hkp := (Keep.refl (· = b) w1).put 17 (.bool false)
    have HM9 := hid (HM.out.flipped (u := false) (by rw [HSP.out]; rfl))
    have HK9 := hid (HK.out.trans (hkp.wide (T := brd b r d) (fun i _ e => .inl e)) (fun _ _ e => e))
    have HR9 := hid (HR.out.keep hkp (fun e => by have := HLT.out; omega))
    clear HM HK HR hkp
    clear t0 t1 t2 t3 t4 t5 t6 t7 t8 t9 t10 t11 t12 t13 t14 t15 td ts tw tf tl
    have HM := HM9
    have HK := HK9
    have HR := HR9
    clear HM9 HK9 HR9
    generalize w1.setCell ⟨b, 17, none⟩ (.bool false) = w2 at *
    have HSV := hid (show x.flip.sp = false by rw [AS.flip]; simp only; rw [HSP.out]; rfl)
    obtain ⟨t0, t1, t2, t3, t4, t5, t6, t7, t8, t9, t10, t11, t12, t13, t14, t15, td, ts, tw, tf, tl⟩ := HM.out.rc
    rw [HSV.out] at ts
    have rr := HR.out.free
    have rlt := HR.out.lt
    have rz0 := HR.out.at_ 0
    have rz1 := HR.out.at_ 1
    have rz2 := HR.out.at_ 2
    have rz3 := HR.out.at_ 3
    have rz4 := HR.out.at_ 4
    have rz5 := HR.out.at_ 5
    have rz6 := HR.out.at_ 6
    have rz7 := HR.out.at_ 7
    have HE2 := hid (show partM p x = x.flip.add ⟨9, 0, 0, 0, 0, 0, [], []⟩ from HE.out.trans rfl)
    go_wp2_with fail
    have HP := hid (Blk.put8 HR.out (.int .i64 9) (.int .i64 0) (.int .i64 0) (.int .i64 0) (.int .i64 0) (.int .i64 0) (.slice none 0 0) (.slice none 0 0))
    generalize ((((((((w2.setCell ⟨w.heap.size, 0, none⟩ (.int .i64 9)).setCell ⟨w.heap.size, 1, none⟩ (.int .i64 0)).setCell ⟨w.heap.size, 2, none⟩ (.int .i64 0)).setCell ⟨w.heap.size, 3, none⟩ (.int .i64 0)).setCell ⟨w.heap.size, 4, none⟩ (.int .i64 0)).setCell ⟨w.heap.size, 5, none⟩ (.int .i64 0)).setCell ⟨w.heap.size, 6, none⟩ (.slice none 0 0)).setCell ⟨w.heap.size, 7, none⟩ (.slice none 0 0)) = w9 at *
    have r0 := HP.out.1.at_ 0
    have r1 := HP.out.1.at_ 1
    have r2 := HP.out.1.at_ 2
    have r3 := HP.out.1.at_ 3
    have r4 := HP.out.1.at_ 4
    have r5 := HP.out.1.at_ 5
    have r6 := HP.out.1.at_ 6
    have r7 := HP.out.1.at_ 7
    refine bodyPost_ret (v := .agg #[.int .i64 9, .int .i64 0, .int .i64 0, .int .i64 0, .int .i64 0, .int .i64 0, .slice none 0 0, .slice none 0 0]) (by simp [results, Try.results54, go_sem, r0, r1, r2, r3, r4, r5, r6, r7]) rfl ?_
    exact ActPost.of (a := plA 9 0 0 0 0 0) rfl (by rw [HE2.out, plA_val]) HM.out HK.out HP.out.2 (Nat.le_refl _) HLT.out (AcK.plain _ _ _ _ _ _ _ _)
end
end Go.Proofs.Ytnejacmmbfeneaa

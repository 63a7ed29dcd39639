import Derived.Test.YtnejacmmbfeneaaGenI
import Derived.Deep.RegionHeld3
import Derived.Deep.Cut
import Derived.Deep.CutRange
import Derived.RegionTactic
import Derived.ChangeAlike
namespace Go.Proofs.Ytnejacmmbfeneaa
open Go.RowKit Go.PlainAid

/-! ## The reference's state -/
def scells (r d : Nat) (c : CF) (di : Int) (sp : Bool) : List Value := .pointer (some ⟨r, 0, none⟩) :: (c.cells ++ [.int .i64 di, .bool sp, .slice (some ⟨d, 0, none⟩) c.cen.toNat c.cen.toNat])
structure RM (w : World) (b r d : Nat) (c : CF) (x : AS) : Prop where
  blk : Blk w b 76 (scells r d c x.di x.sp).toArray
  rng : Gn w 33 r x.s
  dwn : Blk w d 4 ((x.dn.take c.cen.toNat).map Value.bool).toArray
  br : b ≠ r
  bd : b ≠ d
  rd : r ≠ d
  dl : x.dn.length = 9
structure RC (w : World) (b r d : Nat) (c : CF) (x : AS) : Prop where
  c0 : w.cell? ⟨b, 0, none⟩ = some (.pointer (some ⟨r, 0, none⟩))
  c1 : w.cell? ⟨b, 1, none⟩ = some (.int .i64 c.cen)
  c2 : w.cell? ⟨b, 2, none⟩ = some (.slice c.D c.dis.length c.cD)
  c3 : w.cell? ⟨b, 3, none⟩ = some (.slice c.E c.edg.length c.cE)
  c4 : w.cell? ⟨b, 4, none⟩ = some (.slice c.U c.uni.length c.cU)
  c5 : w.cell? ⟨b, 5, none⟩ = some (.slice c.P c.pla.length c.cP)
  c6 : w.cell? ⟨b, 6, none⟩ = some (.int .i64 c.h0)
  c7 : w.cell? ⟨b, 7, none⟩ = some (.int .i64 c.h1)
  c8 : w.cell? ⟨b, 8, none⟩ = some (.int .i64 c.h2)
  c9 : w.cell? ⟨b, 9, none⟩ = some (.int .i64 c.h3)
  c10 : w.cell? ⟨b, 10, none⟩ = some (.int .i64 c.h4)
  c11 : w.cell? ⟨b, 11, none⟩ = some (.int .i64 c.h5)
  c12 : w.cell? ⟨b, 12, none⟩ = some (.int .i64 c.h6)
  c13 : w.cell? ⟨b, 13, none⟩ = some (.int .i64 c.h7)
  c14 : w.cell? ⟨b, 14, none⟩ = some (.int .i64 c.h8)
  c15 : w.cell? ⟨b, 15, none⟩ = some (.int .i64 c.h9)
  c16 : w.cell? ⟨b, 16, none⟩ = some (.int .i64 x.di)
  c17 : w.cell? ⟨b, 17, none⟩ = some (.bool x.sp)
  c18 : w.cell? ⟨b, 18, none⟩ = some (.slice (some ⟨d, 0, none⟩) c.cen.toNat c.cen.toNat)
  fz : ∀ i, w.frozen? ⟨b, i, none⟩ = false
  lt : b < w.heap.size
def brd (b r d : Nat) (i : Nat) : Prop := i = b ∨ i = r ∨ i = d
/-- what the four that make an action hand out -/
def ActPost (w : World) (b r d : Nat) (c : CF) (y : AS) (e : Ending) (w' : World) : Prop :=
  ∃ a x', e = .returned (.agg a.cells.toArray) ∧ y = AS.add x' a.val ∧ RM w' b r d c x' ∧ AcK w' (· < w.heap.size) a ∧ Keep (brd b r d) w w'
section
variable {w w' : World} {b r d : Nat} {c : CF} {x : AS}
theorem RM.rc (h : RM w b r d c x) : RC w b r d c x := by
  have e := fun i => h.blk.at_ i
  exact ⟨e 0, e 1, e 2, e 3, e 4, e 5, e 6, e 7, e 8, e 9, e 10, e 11, e 12, e 13, e 14, e 15, e 16, e 17, e 18, fun i => h.blk.free i, h.blk.lt⟩
theorem RM.draw (h : RM w b r d c x) {n : Int} (hg : Gn w' 33 r (aft n x.s)) (hk : Keep (· = r) w w') : RM w' b r d c (x.draw n) :=
  ⟨h.blk.keep hk h.br, hg, h.dwn.keep hk (fun e => h.rd e.symm), h.br, h.bd, h.rd, h.dl⟩
theorem RM.same (h : RM w b r d c x) (hk : Same w w') : RM w' b r d c x :=
  ⟨h.blk.keep hk (fun f => f), h.rng.keep hk (fun f => f), h.dwn.keep hk (fun f => f), h.br, h.bd, h.rd, h.dl⟩
theorem RM.far (h : RM w b r d c x) {S : Nat → Prop} (hk : Keep S w w') (hb : ¬ S b) (hr : ¬ S r) (hd : ¬ S d) : RM w' b r d c x :=
  ⟨h.blk.keep hk hb, h.rng.keep hk hr, h.dwn.keep hk hd, h.br, h.bd, h.rd, h.dl⟩
theorem RM.add (h : RM w b r d c x) (v : AV) : RM w b r d c (x.add v) := ⟨h.blk, h.rng, h.dwn, h.br, h.bd, h.rd, h.dl⟩
theorem RM.noL (h : RM w b r d c x) {y : AS} (h1 : y.s = x.s) (h2 : y.di = x.di) (h3 : y.sp = x.sp) (h4 : y.dn = x.dn) : RM w b r d c y := by
  obtain ⟨s, di, sp, dn, l⟩ := x
  obtain ⟨s', di', sp', dn', l'⟩ := y
  simp only at h1 h2 h3 h4
  subst h1; subst h2; subst h3; subst h4
  exact ⟨h.blk, h.rng, h.dwn, h.br, h.bd, h.rd, h.dl⟩
theorem RM.lts (h : RM w b r d c x) : b < w.heap.size ∧ r < w.heap.size ∧ d < w.heap.size := ⟨h.blk.lt, h.rng.blk.lt, h.dwn.lt⟩
theorem RM.dnAt (h : RM w b r d c x) {k : Nat} (hk : k < c.cen.toNat) (hc : c.cen.toNat ≤ 9) : w.cell? ⟨d, k, none⟩ = some (.bool (x.dn.getD k false)) := by
  rw [h.dwn.at_ k]
  have hl := h.dl
  have h9 : k < x.dn.length := by omega
  rw [List.getElem?_toArray, List.getElem?_map, List.getElem?_take, if_pos hk, List.getElem?_eq_getElem h9]
  simp [List.getD, List.getElem?_eq_getElem h9]
theorem RM.crashed (h : RM w b r d c x) {k : Nat} (hk : k < c.cen.toNat) {u : Bool} (hu : (!x.dn.getD k false) = u) : RM (w.setCell ⟨d, k, none⟩ (.bool u)) b r d c (x.crash k) := by
  subst hu
  have hkp : Keep (· = d) w (w.setCell ⟨d, k, none⟩ (.bool (!x.dn.getD k false))) := (Keep.refl _ w).put k _
  refine ⟨h.blk.keep hkp h.bd, h.rng.keep hkp h.rd, ?_, h.br, h.bd, h.rd, by simp [AS.crash, h.dl]⟩
  have := h.dwn.put k (.bool (!x.dn.getD k false))
  rw [List.setIfInBounds_toArray] at this
  have e : ((x.dn.take c.cen.toNat).map Value.bool).set k (.bool (!x.dn.getD k false)) = ((x.crash k).dn.take c.cen.toNat).map Value.bool := by
    rw [AS.crash, List.take_set, List.map_set]
  rwa [e] at this
theorem RM.flipped (h : RM w b r d c x) {u : Bool} (hu : (!x.sp) = u) : RM (w.setCell ⟨b, 17, none⟩ (.bool u)) b r d c x.flip := by
  subst hu
  have hkp : Keep (· = b) w (w.setCell ⟨b, 17, none⟩ (.bool (!x.sp))) := (Keep.refl _ w).put 17 _
  exact ⟨h.blk.put 17 _, h.rng.keep hkp (fun e => h.br e.symm), h.dwn.keep hkp (fun e => h.bd e.symm), h.br, h.bd, h.rd, h.dl⟩
theorem RM.dialed (h : RM w b r d c x) {u : Int} (hu : x.di + 1 = u) : RM (w.setCell ⟨b, 16, none⟩ (.int .i64 u)) b r d c x.dial := by
  subst hu
  have hkp : Keep (· = b) w (w.setCell ⟨b, 16, none⟩ (.int .i64 (x.di + 1))) := (Keep.refl _ w).put 16 _
  exact ⟨h.blk.put 16 _, h.rng.keep hkp (fun e => h.br e.symm), h.dwn.keep hkp (fun e => h.bd e.symm), h.br, h.bd, h.rd, h.dl⟩
set_option maxRecDepth 100000 in
theorem roccurs_any (h : RM w b r d c x) (rate : Int) : Calls Try.prog 52 #[.pointer (some ⟨b, 0, none⟩), .int .i64 rate] w (GPost 33 w r (.bool (occ rate x.s)) (aft 100 x.s)) := by
  have HC := hid (dchance_any w r x.s (min (max rate 0) 100) 100 h.rng (by omega))
  have h0 := h.rc.c0
  have hl := h.rc.lt
  have HO := hid (show occ rate x.s = chc (min (max rate 0) 100) 100 x.s from rfl)
  clear h
  rw [HO.out]
  generalize chc (min (max rate 0) 100) 100 x.s = b at *
  go_enter Try.func52, Try.ntmps52
  go_wp2_with fail
  (with_reducible refine HC.out.mono ?_)
  rintro e w2 ⟨rfl, hg2, hk2⟩
  have HG := hid hg2
  have HK := hid hk2
  clear hg2 hk2
  go_wp2_with fail
  go_ret
  exact ⟨rfl, HG.out, HK.out⟩
theorem Blk.put8 {w : World} {g : Nat} {t : TypeId} {a0 a1 a2 a3 a4 a5 a6 a7 : Value} (h : Blk w g t #[a0, a1, a2, a3, a4, a5, a6, a7]) (v0 v1 v2 v3 v4 v5 v6 v7 : Value) :
    Blk ((((((((w.setCell ⟨g, 0, none⟩ v0).setCell ⟨g, 1, none⟩ v1).setCell ⟨g, 2, none⟩ v2).setCell ⟨g, 3, none⟩ v3).setCell ⟨g, 4, none⟩ v4).setCell ⟨g, 5, none⟩ v5).setCell ⟨g, 6, none⟩ v6).setCell ⟨g, 7, none⟩ v7) g t #[v0, v1, v2, v3, v4, v5, v6, v7] ∧
    Keep (· = g) w ((((((((w.setCell ⟨g, 0, none⟩ v0).setCell ⟨g, 1, none⟩ v1).setCell ⟨g, 2, none⟩ v2).setCell ⟨g, 3, none⟩ v3).setCell ⟨g, 4, none⟩ v4).setCell ⟨g, 5, none⟩ v5).setCell ⟨g, 6, none⟩ v6).setCell ⟨g, 7, none⟩ v7) :=
  ⟨by
    have h8 := ((((((((h.put 0 v0).put 1 v1).put 2 v2).put 3 v3).put 4 v4).put 5 v5).put 6 v6).put 7 v7)
    simp only [List.setIfInBounds_toArray, List.set_cons_zero, List.set_cons_succ] at h8
    exact h8, (((((((((Keep.refl _ w).put 0 v0).put 1 v1).put 2 v2).put 3 v3).put 4 v4).put 5 v5).put 6 v6).put 7 v7)⟩
theorem ActPost.of {w w1 w' : World} {b r d g : Nat} {c : CF} {x' y : AS} {a : AC} {v : Value} (hv : v = .agg a.cells.toArray) (hy : y = AS.add x' a.val) (hm : RM w1 b r d c x') (hk : Keep (brd b r d) w w1) (hp : Keep (· = g) w1 w') (hg : w.heap.size ≤ g) (hgl : b < w.heap.size ∧ r < w.heap.size ∧ d < w.heap.size) (ha : AcK w' (· < w.heap.size) a) : ActPost w b r d c y (.returned v) w' :=
  ⟨a, x', by rw [hv], hy, hm.far hp (by omega) (by omega) (by omega), ha, hk.trans (hp.wide (T := fun i => w.heap.size ≤ i) (fun i _ e => by subst e; exact hg)) (fun i hi e => by omega)⟩
/-! ## A crash -/
set_option maxRecDepth 100000 in
set_option maxHeartbeats 8000000 in
theorem rcrash_any (h : RM w b r d c x) (hc1 : 1 ≤ c.cen) (hc2 : c.cen ≤ 9) : Calls Try.prog 55 #[.pointer (some ⟨b, 0, none⟩)] w (ActPost w b r d c (crashM (roll c.cen x.s).toNat (x.draw c.cen))) := by
  have HM0 := hid h
  have HLT := hid h.lts
  have HR := hid (Blk.made w 59 #[.int .i64 0, .int .i64 0, .int .i64 0, .int .i64 0, .int .i64 0, .int .i64 0, .slice none 0 0, .slice none 0 0])
  have HK := hid ((Keep.refl (brd b r d) w).alloc (.cells #[.int .i64 0, .int .i64 0, .int .i64 0, .int .i64 0, .int .i64 0, .int .i64 0, .slice none 0 0, .slice none 0 0] 59))
  have HM := hid (h.same ((Keep.refl (fun _ => False) w).alloc (.cells #[.int .i64 0, .int .i64 0, .int .i64 0, .int .i64 0, .int .i64 0, .int .i64 0, .slice none 0 0, .slice none 0 0] 59)))
  clear h
  go_enter Try.func55, Try.ntmps55
  go_upto_region 1 with fail
  generalize w.alloc (.cells #[.int .i64 0, .int .i64 0, .int .i64 0, .int .i64 0, .int .i64 0, .int .i64 0, .slice none 0 0, .slice none 0 0] 59) = w1 at *
  obtain ⟨t0, t1, t2, t3, t4, t5, t6, t7, t8, t9, t10, t11, t12, t13, t14, t15, td, ts, tw, tf, tl⟩ := HM.out.rc
  have HM9 := hid (HM.out.same (Keep.refl _ _).drew)
  have HK9 := hid HK.out.drew
  have HR9 := hid HR.out.drew
  clear HM HK HR
  have HM := HM9
  have HK := HK9
  have HR := HR9
  clear HM9 HK9 HR9
  go_region_held3 (fun W => W.cell? ⟨b, 0, none⟩ = some (.pointer (some ⟨r, 0, none⟩)) ∧ W.cell? ⟨b, 1, none⟩ = some (.int .i64 c.cen))
    (first | exact ⟨t0, t1⟩ | exact HS.out | go_keep)
    (first | (
      go_at_call 13
      (with_reducible refine (roll_any _ r _ _ HM.out.rng (by omega)).mono ?_)
      rintro e w2 ⟨rfl, hg9, hk9⟩
      have HM2 := hid (HM.out.draw hg9 hk9)
      have HK2 := hid (HK.out.trans hk9 (fun _ _ e => .inr (.inl e)))
      have HR2 := hid (HR.out.keep hk9 (fun e => by have := HLT.out; omega))
      clear HR
      have HR := HR2
      clear HR2
      have HS := hid (show w2.cell? ⟨b, 0, none⟩ = some (.pointer (some ⟨r, 0, none⟩)) ∧ w2.cell? ⟨b, 1, none⟩ = some (.int .i64 c.cen) from ⟨HM2.out.rc.c0, HM2.out.rc.c1⟩)
      clear hg9 hk9 HM HK
      have HM := HM2
      have HK := HK2
      clear HM2 HK2))
  go_wp2_with fail
  obtain ⟨hn0, hn1⟩ := roll_in c.cen x.s hc1
  have HD := hid (show ∀ k : Nat, roll c.cen x.s = k → ∀ u, x.dn.getD k false = u → crashM (roll c.cen x.s).toNat (x.draw c.cen) = if u = true then ((x.draw c.cen).add ⟨11, k, 0, 0, 0, 0, [], []⟩).crash k else (((x.draw c.cen).draw 64).add ⟨10, k, roll 64 (x.draw c.cen).s, 0, 0, 0, [], []⟩).crash k from fun k hk u hu => by
    rw [hk, crashM, show (x.draw c.cen).dn = x.dn from rfl, Int.toNat_natCast, hu])
  generalize roll c.cen x.s = n at *
  obtain ⟨k, rfl⟩ : ∃ k : Nat, n = k := ⟨n.toNat, by omega⟩
  have HE := hid (HD.out k rfl)
  clear HD
  have hk9 : k < c.cen.toNat := by omega
  have hc9 : c.cen.toNat ≤ 9 := by omega
  have hkc : (k : Int) < (c.cen.toNat : Int) := by omega
  have dnc := HM.out.dnAt hk9 hc9
  clear HS t0 t1 t2 t3 t4 t5 t6 t7 t8 t9 t10 t11 t12 t13 t14 t15 td ts tw tf tl
  obtain ⟨t0, t1, t2, t3, t4, t5, t6, t7, t8, t9, t10, t11, t12, t13, t14, t15, td, ts, tw, tf, tl⟩ := HM.out.rc
  have dnf := fun i => HM.out.dwn.free i
  have dlt := HM.out.dwn.lt
  generalize hX : x.draw c.cen = x1 at *
  have hdn : x1.dn = x.dn := by rw [← hX]; rfl
  rw [hdn] at dnc
  have HL9 := hid (show x.dn.length = 9 from by rw [← hdn]; exact HM.out.dl)
  cases hb : x.dn.getD k false
  · have HV := hid (HE.out false hb)
    have HBV := hid hb
    rw [hb] at dnc
    have HM3 := hid ((HM.out.crashed hk9 (u := true) (by rw [hdn, hb]; rfl)).same (Keep.refl (fun _ => False) _).drew)
    have HK3 := hid ((HK.out.trans (((Keep.refl (· = d) w2).put k (.bool true)).wide (fun i _ e => (show brd b r d i from .inr (.inr e)))) (fun _ _ e => e)).drew)
    have HR3 := hid ((HR.out.keep ((Keep.refl (· = d) w2).put k (.bool true)) (fun e => by have := HLT.out; omega)).drew)
    have HDV := hid (show (x1.crash k).dn.getD k false = true by rw [AS.crash]; simp only [hdn]; rw [List.getD_eq_getElem?_getD, List.getElem?_set_self (by rw [HL9.out]; omega), Option.getD_some, hb]; rfl)
    clear hb
    go_region
    clear dnc dnf dlt HM HK HR
    clear t0 t1 t2 t3 t4 t5 t6 t7 t8 t9 t10 t11 t12 t13 t14 t15 td ts tw tf tl
    generalize (w2.setCell ⟨d, k, none⟩ (.bool true)).drew = w3 at *
    have HM := HM3
    have HK := HK3
    have HR := HR3
    clear HM3 HK3 HR3
    have dnc := HM.out.dnAt hk9 hc9
    rw [HDV.out] at dnc
    have dlt := HM.out.dwn.lt
    obtain ⟨t0, t1, t2, t3, t4, t5, t6, t7, t8, t9, t10, t11, t12, t13, t14, t15, td, ts, tw, tf, tl⟩ := HM.out.rc
    go_upto_region 5 with fail
    have rr := HR.out.free
    have rlt := HR.out.lt
    have rz0 := HR.out.at_ 0
    have rz1 := HR.out.at_ 1
    have rz2 := HR.out.at_ 2
    have rz3 := HR.out.at_ 3
    have rz4 := HR.out.at_ 4
    have rz5 := HR.out.at_ 5
    have rz6 := HR.out.at_ 6
    have rz7 := HR.out.at_ 7
    go_wp2_with (
      go_at_call 13
      (with_reducible refine (roll_any _ r _ _ HM.out.rng (by omega)).mono ?_)
      rintro e w4 ⟨rfl, hg9, hk9⟩
      have HM2 := hid (HM.out.draw hg9 hk9)
      have HK2 := hid (HK.out.trans hk9 (fun _ _ e => .inr (.inl e)))
      have HR2 := hid (HR.out.keep hk9 (fun e => by have := HLT.out; omega))
      clear HR
      have HR := HR2
      clear HR2
      clear t0 t1 t2 t3 t4 t5 t6 t7 t8 t9 t10 t11 t12 t13 t14 t15 td ts tw tf tl
      clear hg9 hk9 HM HK
      have HM := HM2
      have HK := HK2
      clear HM2 HK2
      have rr := HR.out.free
      have rlt := HR.out.lt
      have rz0 := HR.out.at_ 0
      have rz1 := HR.out.at_ 1
      have rz2 := HR.out.at_ 2
      have rz3 := HR.out.at_ 3
      have rz4 := HR.out.at_ 4
      have rz5 := HR.out.at_ 5
      have rz6 := HR.out.at_ 6
      have rz7 := HR.out.at_ 7)
    have HP := hid (HR.out.put8 (.int .i64 (10)) (.int .i64 (k)) (.int .i64 ((roll 64 (x1.crash k).s))) (.int .i64 (0)) (.int .i64 (0)) (.int .i64 (0)) (.slice none 0 0) (.slice none 0 0))
    generalize ((((((((w4.setCell ⟨w.heap.size, 0, none⟩ (.int .i64 (10))).setCell ⟨w.heap.size, 1, none⟩ (.int .i64 (k))).setCell ⟨w.heap.size, 2, none⟩ (.int .i64 ((roll 64 (x1.crash k).s)))).setCell ⟨w.heap.size, 3, none⟩ (.int .i64 (0))).setCell ⟨w.heap.size, 4, none⟩ (.int .i64 (0))).setCell ⟨w.heap.size, 5, none⟩ (.int .i64 (0))).setCell ⟨w.heap.size, 6, none⟩ (.slice none 0 0)).setCell ⟨w.heap.size, 7, none⟩ (.slice none 0 0)) = w9 at *
    have r0 := HP.out.1.at_ 0
    have r1 := HP.out.1.at_ 1
    have r2 := HP.out.1.at_ 2
    have r3 := HP.out.1.at_ 3
    have r4 := HP.out.1.at_ 4
    have r5 := HP.out.1.at_ 5
    have r6 := HP.out.1.at_ 6
    have r7 := HP.out.1.at_ 7
    refine bodyPost_ret (v := .agg #[.int .i64 (10), .int .i64 (k), .int .i64 ((roll 64 (x1.crash k).s)), .int .i64 (0), .int .i64 (0), .int .i64 (0), .slice none 0 0, .slice none 0 0]) (by simp [results, Try.results55, go_sem, r0, r1, r2, r3, r4, r5, r6, r7]) rfl ?_
    exact ActPost.of (a := plA 10 k (roll 64 (x1.crash k).s) 0 0 0) rfl (by exact HV.out.trans rfl) HM.out HK.out HP.out.2 (Nat.le_refl _) HLT.out (AcK.plain _ _ _ _ _ _ _ _)
  · have HV := hid (HE.out true hb)
    have HBV := hid hb
    rw [hb] at dnc
    have HM3 := hid ((HM.out.crashed hk9 (u := false) (by rw [hdn, hb]; rfl)).same (Keep.refl (fun _ => False) _).drew)
    have HK3 := hid ((HK.out.trans (((Keep.refl (· = d) w2).put k (.bool false)).wide (fun i _ e => (show brd b r d i from .inr (.inr e)))) (fun _ _ e => e)).drew)
    have HR3 := hid ((HR.out.keep ((Keep.refl (· = d) w2).put k (.bool false)) (fun e => by have := HLT.out; omega)).drew)
    have HDV := hid (show (x1.crash k).dn.getD k false = false by rw [AS.crash]; simp only [hdn]; rw [List.getD_eq_getElem?_getD, List.getElem?_set_self (by rw [HL9.out]; omega), Option.getD_some, hb]; rfl)
    clear hb
    go_region
    clear dnc dnf dlt HM HK HR
    clear t0 t1 t2 t3 t4 t5 t6 t7 t8 t9 t10 t11 t12 t13 t14 t15 td ts tw tf tl
    generalize (w2.setCell ⟨d, k, none⟩ (.bool false)).drew = w3 at *
    have HM := HM3
    have HK := HK3
    have HR := HR3
    clear HM3 HK3 HR3
    have dnc := HM.out.dnAt hk9 hc9
    rw [HDV.out] at dnc
    have dlt := HM.out.dwn.lt
    obtain ⟨t0, t1, t2, t3, t4, t5, t6, t7, t8, t9, t10, t11, t12, t13, t14, t15, td, ts, tw, tf, tl⟩ := HM.out.rc
    have rr := HR.out.free
    have rlt := HR.out.lt
    have rz0 := HR.out.at_ 0
    have rz1 := HR.out.at_ 1
    have rz2 := HR.out.at_ 2
    have rz3 := HR.out.at_ 3
    have rz4 := HR.out.at_ 4
    have rz5 := HR.out.at_ 5
    have rz6 := HR.out.at_ 6
    have rz7 := HR.out.at_ 7
    go_wp2_with fail
    have HP := hid (HR.out.put8 (.int .i64 (11)) (.int .i64 (k)) (.int .i64 (0)) (.int .i64 (0)) (.int .i64 (0)) (.int .i64 (0)) (.slice none 0 0) (.slice none 0 0))
    generalize ((((((((w3.setCell ⟨w.heap.size, 0, none⟩ (.int .i64 (11))).setCell ⟨w.heap.size, 1, none⟩ (.int .i64 (k))).setCell ⟨w.heap.size, 2, none⟩ (.int .i64 (0))).setCell ⟨w.heap.size, 3, none⟩ (.int .i64 (0))).setCell ⟨w.heap.size, 4, none⟩ (.int .i64 (0))).setCell ⟨w.heap.size, 5, none⟩ (.int .i64 (0))).setCell ⟨w.heap.size, 6, none⟩ (.slice none 0 0)).setCell ⟨w.heap.size, 7, none⟩ (.slice none 0 0)) = w9 at *
    have r0 := HP.out.1.at_ 0
    have r1 := HP.out.1.at_ 1
    have r2 := HP.out.1.at_ 2
    have r3 := HP.out.1.at_ 3
    have r4 := HP.out.1.at_ 4
    have r5 := HP.out.1.at_ 5
    have r6 := HP.out.1.at_ 6
    have r7 := HP.out.1.at_ 7
    refine bodyPost_ret (v := .agg #[.int .i64 (11), .int .i64 (k), .int .i64 (0), .int .i64 (0), .int .i64 (0), .int .i64 (0), .slice none 0 0, .slice none 0 0]) (by simp [results, Try.results55, go_sem, r0, r1, r2, r3, r4, r5, r6, r7]) rfl ?_
    exact ActPost.of (a := plA 11 k 0 0 0 0) rfl (by exact HV.out.trans rfl) HM.out HK.out HP.out.2 (Nat.le_refl _) HLT.out (AcK.plain _ _ _ _ _ _ _ _)
end
end Go.Proofs.Ytnejacmmbfeneaa

import Derived.Test.YtmkcphhgimlkgaaConfA
import Derived.Laws.EntriesVeiled
import Derived.Deep.RegionHeld3
import Derived.Great.Walk
namespace Go.Proofs.Ytmkcphhgimlkgaa
open Go.RowKit Go.PlainAid

section
variable (w : World)

/-! ## The parameters: closures -/
theorem mkfn (fn : Fn) (first cap : Array Value) (w : World) : (Instr.makeFunc fn first cap).run Try.prog w = .ok (.func fn first cap) w := rfl
structure PA where
  name : ByteArray
  lo : Int
  hi : Int
  G : Nat
  b : Nat
def PA.cells (p : PA) : List Value := [.string p.name, .int .i64 p.lo, .int .i64 p.hi, .func (.func p.G) #[] #[.pointer (some ⟨p.b, 0, none⟩)], .func (.func (p.G + 1)) #[] #[.pointer (some ⟨p.b, 0, none⟩)]]
def pacells (l : List PA) : List Value := l.flatMap PA.cells
theorem duration_any (name : ByteArray) (lo hi : Int) (f : Nat) : Calls Try.prog 89 #[.string name, .int .i64 lo, .int .i64 hi, .func (.func f) #[] #[]] w fun e w' => e = .returned (.agg (PA.mk name lo hi 101 w.heap.size).cells.toArray) ∧ Blk w' w.heap.size 157 #[.func (.func f) #[] #[]] ∧ Same w w' := by
  have hmf := mkfn
  go_enter Try.func89, Try.ntmps89
  go_wp2_with fail
  exact bodyPost_ret (v := .agg (PA.mk name lo hi 101 w.heap.size).cells.toArray) (by simp [results, Try.results89, go_sem, PA.cells]) rfl ⟨rfl, (Blk.made w _ _).alloc _, ((Keep.refl _ w).alloc _).alloc _⟩
theorem quantity_any (name : ByteArray) (lo hi : Int) (f : Nat) : Calls Try.prog 98 #[.string name, .int .i64 lo, .int .i64 hi, .func (.func f) #[] #[]] w fun e w' => e = .returned (.agg (PA.mk name lo hi 103 w.heap.size).cells.toArray) ∧ Blk w' w.heap.size 160 #[.func (.func f) #[] #[]] ∧ Same w w' := by
  have hmf := mkfn
  go_enter Try.func98, Try.ntmps98
  go_wp2_with fail
  exact bodyPost_ret (v := .agg (PA.mk name lo hi 103 w.heap.size).cells.toArray) (by simp [results, Try.results98, go_sem, PA.cells]) rfl ⟨rfl, (Blk.made w _ _).alloc _, ((Keep.refl _ w).alloc _).alloc _⟩
theorem get0_any (g b : Nat) (x : Int) (hb : w.cell? ⟨b, 0, none⟩ = some (.func (.func 90) #[] #[])) (hx : w.cell? ⟨g, 5, none⟩ = some (.int .i64 x)) : Calls Try.prog 101 #[.pointer (some ⟨g, 0, none⟩), .pointer (some ⟨b, 0, none⟩)] w fun e w' => e = .returned (.int .i64 x) ∧ w = w' := by
  go_enter Try.func101, Try.ntmps101
  go_wp2
  go_ret
  exact ⟨rfl, rfl⟩
theorem get1_any (g b : Nat) (x : Int) (hb : w.cell? ⟨b, 0, none⟩ = some (.func (.func 91) #[] #[])) (hx : w.cell? ⟨g, 6, none⟩ = some (.int .i64 x)) : Calls Try.prog 101 #[.pointer (some ⟨g, 0, none⟩), .pointer (some ⟨b, 0, none⟩)] w fun e w' => e = .returned (.int .i64 x) ∧ w = w' := by
  go_enter Try.func101, Try.ntmps101
  go_wp2
  go_ret
  exact ⟨rfl, rfl⟩
theorem get2_any (g b : Nat) (x : Int) (hb : w.cell? ⟨b, 0, none⟩ = some (.func (.func 92) #[] #[])) (hx : w.cell? ⟨g, 7, none⟩ = some (.int .i64 x)) : Calls Try.prog 101 #[.pointer (some ⟨g, 0, none⟩), .pointer (some ⟨b, 0, none⟩)] w fun e w' => e = .returned (.int .i64 x) ∧ w = w' := by
  go_enter Try.func101, Try.ntmps101
  go_wp2
  go_ret
  exact ⟨rfl, rfl⟩
theorem get3_any (g b : Nat) (x : Int) (hb : w.cell? ⟨b, 0, none⟩ = some (.func (.func 93) #[] #[])) (hx : w.cell? ⟨g, 8, none⟩ = some (.int .i64 x)) : Calls Try.prog 101 #[.pointer (some ⟨g, 0, none⟩), .pointer (some ⟨b, 0, none⟩)] w fun e w' => e = .returned (.int .i64 x) ∧ w = w' := by
  go_enter Try.func101, Try.ntmps101
  go_wp2
  go_ret
  exact ⟨rfl, rfl⟩
theorem get4_any (g b : Nat) (x : Int) (hb : w.cell? ⟨b, 0, none⟩ = some (.func (.func 94) #[] #[])) (hx : w.cell? ⟨g, 9, none⟩ = some (.int .i64 x)) : Calls Try.prog 101 #[.pointer (some ⟨g, 0, none⟩), .pointer (some ⟨b, 0, none⟩)] w fun e w' => e = .returned (.int .i64 x) ∧ w = w' := by
  go_enter Try.func101, Try.ntmps101
  go_wp2
  go_ret
  exact ⟨rfl, rfl⟩
theorem get5_any (g b : Nat) (x : Int) (hb : w.cell? ⟨b, 0, none⟩ = some (.func (.func 95) #[] #[])) (hx : w.cell? ⟨g, 10, none⟩ = some (.int .i64 x)) : Calls Try.prog 101 #[.pointer (some ⟨g, 0, none⟩), .pointer (some ⟨b, 0, none⟩)] w fun e w' => e = .returned (.int .i64 x) ∧ w = w' := by
  go_enter Try.func101, Try.ntmps101
  go_wp2
  go_ret
  exact ⟨rfl, rfl⟩
theorem get6_any (g b : Nat) (x : Int) (hb : w.cell? ⟨b, 0, none⟩ = some (.func (.func 96) #[] #[])) (hx : w.cell? ⟨g, 11, none⟩ = some (.int .i64 x)) : Calls Try.prog 101 #[.pointer (some ⟨g, 0, none⟩), .pointer (some ⟨b, 0, none⟩)] w fun e w' => e = .returned (.int .i64 x) ∧ w = w' := by
  go_enter Try.func101, Try.ntmps101
  go_wp2
  go_ret
  exact ⟨rfl, rfl⟩
theorem get7_any (g b : Nat) (x : Int) (hb : w.cell? ⟨b, 0, none⟩ = some (.func (.func 97) #[] #[])) (hx : w.cell? ⟨g, 12, none⟩ = some (.int .i64 x)) : Calls Try.prog 101 #[.pointer (some ⟨g, 0, none⟩), .pointer (some ⟨b, 0, none⟩)] w fun e w' => e = .returned (.int .i64 x) ∧ w = w' := by
  go_enter Try.func101, Try.ntmps101
  go_wp2
  go_ret
  exact ⟨rfl, rfl⟩
theorem get8_any (g b : Nat) (x : Int) (hb : w.cell? ⟨b, 0, none⟩ = some (.func (.func 99) #[] #[])) (hx : w.cell? ⟨g, 13, none⟩ = some (.int .i64 x)) : Calls Try.prog 103 #[.pointer (some ⟨g, 0, none⟩), .pointer (some ⟨b, 0, none⟩)] w fun e w' => e = .returned (.int .i64 x) ∧ w = w' := by
  go_enter Try.func103, Try.ntmps103
  go_wp2
  go_ret
  exact ⟨rfl, rfl⟩
theorem get9_any (g b : Nat) (x : Int) (hb : w.cell? ⟨b, 0, none⟩ = some (.func (.func 100) #[] #[])) (hx : w.cell? ⟨g, 14, none⟩ = some (.int .i64 x)) : Calls Try.prog 103 #[.pointer (some ⟨g, 0, none⟩), .pointer (some ⟨b, 0, none⟩)] w fun e w' => e = .returned (.int .i64 x) ∧ w = w' := by
  go_enter Try.func103, Try.ntmps103
  go_wp2
  go_ret
  exact ⟨rfl, rfl⟩
def parF : List Nat := [90, 91, 92, 93, 94, 95, 96, 97, 99, 100]
def parLH : List (Int × Int) := [(1, 1048576), (1, 1048576), (1, 1048576), (1, 1048576), (1, 1048576), (1, 1048576), (0, 1099511627776), (0, 1099511627776), (0, 256), (1, 4096)]
def parG (k : Nat) : Nat := if k < 8 then 101 else 103
def parT (k : Nat) : Nat := if k < 8 then 157 else 160
structure PAs (w : World) (l : List PA) : Prop where
  len : l.length = 10
  at_ : ∀ k a, l[k]? = some a → parLH[k]? = some (a.lo, a.hi) ∧ a.G = parG k ∧ ∃ f, parF[k]? = some f ∧ w.cell? ⟨a.b, 0, none⟩ = some (.func (.func f) #[] #[]) ∧ a.b < w.heap.size
def ParPost (w : World) (e : Ending) (w' : World) : Prop := ∃ g l, e = .returned (.slice (some ⟨g, 0, none⟩) 10 10) ∧ w.heap.size ≤ g ∧ Blk w' g 153 (pacells l).toArray ∧ PAs w' l ∧ Same w w'
set_option maxRecDepth 100000 in
set_option maxHeartbeats 4000000 in
theorem parameters_any : Calls Try.prog 85 #[] w (ParPost w) := by
  go_enter Try.func85, Try.ntmps85
  go_wp2_with fail
  (with_reducible refine (duration_any _ _ _ _ _).mono ?_)
  rintro e w0 ⟨rfl, hb0, hs0⟩
  have HB0 := hid hb0
  have HS0 := hid hs0
  clear hb0 hs0
  simp only [PA.cells]
  go_wp2_with fail
  (with_reducible refine (duration_any _ _ _ _ _).mono ?_)
  rintro e w1 ⟨rfl, hb1, hs1⟩
  have HB1 := hid hb1
  have HS1 := hid hs1
  clear hb1 hs1
  simp only [PA.cells]
  go_wp2_with fail
  (with_reducible refine (duration_any _ _ _ _ _).mono ?_)
  rintro e w2 ⟨rfl, hb2, hs2⟩
  have HB2 := hid hb2
  have HS2 := hid hs2
  clear hb2 hs2
  simp only [PA.cells]
  go_wp2_with fail
  (with_reducible refine (duration_any _ _ _ _ _).mono ?_)
  rintro e w3 ⟨rfl, hb3, hs3⟩
  have HB3 := hid hb3
  have HS3 := hid hs3
  clear hb3 hs3
  simp only [PA.cells]
  go_wp2_with fail
  (with_reducible refine (duration_any _ _ _ _ _).mono ?_)
  rintro e w4 ⟨rfl, hb4, hs4⟩
  have HB4 := hid hb4
  have HS4 := hid hs4
  clear hb4 hs4
  simp only [PA.cells]
  go_wp2_with fail
  (with_reducible refine (duration_any _ _ _ _ _).mono ?_)
  rintro e w5 ⟨rfl, hb5, hs5⟩
  have HB5 := hid hb5
  have HS5 := hid hs5
  clear hb5 hs5
  simp only [PA.cells]
  go_wp2_with fail
  (with_reducible refine (duration_any _ _ _ _ _).mono ?_)
  rintro e w6 ⟨rfl, hb6, hs6⟩
  have HB6 := hid hb6
  have HS6 := hid hs6
  clear hb6 hs6
  simp only [PA.cells]
  go_wp2_with fail
  (with_reducible refine (duration_any _ _ _ _ _).mono ?_)
  rintro e w7 ⟨rfl, hb7, hs7⟩
  have HB7 := hid hb7
  have HS7 := hid hs7
  clear hb7 hs7
  simp only [PA.cells]
  go_wp2_with fail
  (with_reducible refine (quantity_any _ _ _ _ _).mono ?_)
  rintro e w8 ⟨rfl, hb8, hs8⟩
  have HB8 := hid hb8
  have HS8 := hid hs8
  clear hb8 hs8
  simp only [PA.cells]
  go_wp2_with fail
  (with_reducible refine (quantity_any _ _ _ _ _).mono ?_)
  rintro e w9 ⟨rfl, hb9, hs9⟩
  have HB9 := hid hb9
  have HS9 := hid hs9
  clear hb9 hs9
  simp only [PA.cells]
  have H9 := hid (Keep.refl (fun _ => False) w9)
  have H8 := hid (HS9.out.then H9.out)
  have H7 := hid (HS8.out.then H8.out)
  have H6 := hid (HS7.out.then H7.out)
  have H5 := hid (HS6.out.then H6.out)
  have H4 := hid (HS5.out.then H5.out)
  have H3 := hid (HS4.out.then H4.out)
  have H2 := hid (HS3.out.then H3.out)
  have H1 := hid (HS2.out.then H2.out)
  have H0 := hid (HS1.out.then H1.out)
  have HW := hid (HS0.out.then H0.out)
  go_wp2_with (refine Great.wpList_buildSliceTo rfl 148 153 10 _ rfl _ rfl (some 11) rfl Try.underlying148 (pacells [PA.mk ⟨#[98, 101, 97, 116]⟩ 1 1048576 101 w.heap.size, PA.mk ⟨#[112, 97, 116, 105, 101, 110, 99, 101]⟩ 1 1048576 101 w0.heap.size, PA.mk ⟨#[101, 108, 101, 99, 116, 105, 111, 110]⟩ 1 1048576 101 w1.heap.size, PA.mk ⟨#[108, 101, 97, 115, 101]⟩ 1 1048576 101 w2.heap.size, PA.mk ⟨#[115, 105, 108, 101, 110, 99, 101]⟩ 1 1048576 101 w3.heap.size, PA.mk ⟨#[97, 103, 97, 105, 110]⟩ 1 1048576 101 w4.heap.size, PA.mk ⟨#[110, 101, 97, 114]⟩ 0 1099511627776 101 w5.heap.size, PA.mk ⟨#[119, 105, 110, 100, 111, 119]⟩ 0 1099511627776 101 w6.heap.size, PA.mk ⟨#[114, 101, 115, 101, 114, 118, 101]⟩ 0 256 103 w7.heap.size, PA.mk ⟨#[114, 111, 111, 109]⟩ 1 4096 103 w8.heap.size]).toArray (by kernel_rfl) ?_)
  go_ret
  have hsz : w.heap.size ≤ w9.heap.size := HW.out.size
  refine ⟨w9.heap.size, [PA.mk ⟨#[98, 101, 97, 116]⟩ 1 1048576 101 w.heap.size, PA.mk ⟨#[112, 97, 116, 105, 101, 110, 99, 101]⟩ 1 1048576 101 w0.heap.size, PA.mk ⟨#[101, 108, 101, 99, 116, 105, 111, 110]⟩ 1 1048576 101 w1.heap.size, PA.mk ⟨#[108, 101, 97, 115, 101]⟩ 1 1048576 101 w2.heap.size, PA.mk ⟨#[115, 105, 108, 101, 110, 99, 101]⟩ 1 1048576 101 w3.heap.size, PA.mk ⟨#[97, 103, 97, 105, 110]⟩ 1 1048576 101 w4.heap.size, PA.mk ⟨#[110, 101, 97, 114]⟩ 0 1099511627776 101 w5.heap.size, PA.mk ⟨#[119, 105, 110, 100, 111, 119]⟩ 0 1099511627776 101 w6.heap.size, PA.mk ⟨#[114, 101, 115, 101, 114, 118, 101]⟩ 0 256 103 w7.heap.size, PA.mk ⟨#[114, 111, 111, 109]⟩ 1 4096 103 w8.heap.size], rfl, hsz, Blk.made w9 _ _, ⟨rfl, fun k a hk => ?_⟩, HW.out.alloc _⟩
  have hk1 := (List.getElem?_eq_some_iff.1 hk).1
  have hk2 : k < 10 := hk1
  have fin : ∀ (k b f t : Nat) (wq : World) (_ : Same wq w9) (_ : Blk wq b t #[.func (.func f) #[] #[]]) , (w9.alloc (.cells (pacells [PA.mk ⟨#[98, 101, 97, 116]⟩ 1 1048576 101 w.heap.size, PA.mk ⟨#[112, 97, 116, 105, 101, 110, 99, 101]⟩ 1 1048576 101 w0.heap.size, PA.mk ⟨#[101, 108, 101, 99, 116, 105, 111, 110]⟩ 1 1048576 101 w1.heap.size, PA.mk ⟨#[108, 101, 97, 115, 101]⟩ 1 1048576 101 w2.heap.size, PA.mk ⟨#[115, 105, 108, 101, 110, 99, 101]⟩ 1 1048576 101 w3.heap.size, PA.mk ⟨#[97, 103, 97, 105, 110]⟩ 1 1048576 101 w4.heap.size, PA.mk ⟨#[110, 101, 97, 114]⟩ 0 1099511627776 101 w5.heap.size, PA.mk ⟨#[119, 105, 110, 100, 111, 119]⟩ 0 1099511627776 101 w6.heap.size, PA.mk ⟨#[114, 101, 115, 101, 114, 118, 101]⟩ 0 256 103 w7.heap.size, PA.mk ⟨#[114, 111, 111, 109]⟩ 1 4096 103 w8.heap.size]).toArray 153)).cell? ⟨b, 0, none⟩ = some (.func (.func f) #[] #[]) ∧ b < (w9.alloc (.cells (pacells [PA.mk ⟨#[98, 101, 97, 116]⟩ 1 1048576 101 w.heap.size, PA.mk ⟨#[112, 97, 116, 105, 101, 110, 99, 101]⟩ 1 1048576 101 w0.heap.size, PA.mk ⟨#[101, 108, 101, 99, 116, 105, 111, 110]⟩ 1 1048576 101 w1.heap.size, PA.mk ⟨#[108, 101, 97, 115, 101]⟩ 1 1048576 101 w2.heap.size, PA.mk ⟨#[115, 105, 108, 101, 110, 99, 101]⟩ 1 1048576 101 w3.heap.size, PA.mk ⟨#[97, 103, 97, 105, 110]⟩ 1 1048576 101 w4.heap.size, PA.mk ⟨#[110, 101, 97, 114]⟩ 0 1099511627776 101 w5.heap.size, PA.mk ⟨#[119, 105, 110, 100, 111, 119]⟩ 0 1099511627776 101 w6.heap.size, PA.mk ⟨#[114, 101, 115, 101, 114, 118, 101]⟩ 0 256 103 w7.heap.size, PA.mk ⟨#[114, 111, 111, 109]⟩ 1 4096 103 w8.heap.size]).toArray 153)).heap.size := by
    intro k b f t wq h1 h2
    have h3 := (h2.keep h1 (fun h => h)).alloc (.cells (pacells [PA.mk ⟨#[98, 101, 97, 116]⟩ 1 1048576 101 w.heap.size, PA.mk ⟨#[112, 97, 116, 105, 101, 110, 99, 101]⟩ 1 1048576 101 w0.heap.size, PA.mk ⟨#[101, 108, 101, 99, 116, 105, 111, 110]⟩ 1 1048576 101 w1.heap.size, PA.mk ⟨#[108, 101, 97, 115, 101]⟩ 1 1048576 101 w2.heap.size, PA.mk ⟨#[115, 105, 108, 101, 110, 99, 101]⟩ 1 1048576 101 w3.heap.size, PA.mk ⟨#[97, 103, 97, 105, 110]⟩ 1 1048576 101 w4.heap.size, PA.mk ⟨#[110, 101, 97, 114]⟩ 0 1099511627776 101 w5.heap.size, PA.mk ⟨#[119, 105, 110, 100, 111, 119]⟩ 0 1099511627776 101 w6.heap.size, PA.mk ⟨#[114, 101, 115, 101, 114, 118, 101]⟩ 0 256 103 w7.heap.size, PA.mk ⟨#[114, 111, 111, 109]⟩ 1 4096 103 w8.heap.size]).toArray 153)
    exact ⟨by rw [h3.at_]; rfl, h3.lt⟩
  obtain rfl | rfl | rfl | rfl | rfl | rfl | rfl | rfl | rfl | rfl : k = 0 ∨ k = 1 ∨ k = 2 ∨ k = 3 ∨ k = 4 ∨ k = 5 ∨ k = 6 ∨ k = 7 ∨ k = 8 ∨ k = 9 := by omega
  · obtain rfl := Option.some.inj hk
    exact ⟨rfl, rfl, _, rfl, fin 0 _ _ _ _ H0.out HB0.out⟩
  · obtain rfl := Option.some.inj hk
    exact ⟨rfl, rfl, _, rfl, fin 0 _ _ _ _ H1.out HB1.out⟩
  · obtain rfl := Option.some.inj hk
    exact ⟨rfl, rfl, _, rfl, fin 0 _ _ _ _ H2.out HB2.out⟩
  · obtain rfl := Option.some.inj hk
    exact ⟨rfl, rfl, _, rfl, fin 0 _ _ _ _ H3.out HB3.out⟩
  · obtain rfl := Option.some.inj hk
    exact ⟨rfl, rfl, _, rfl, fin 0 _ _ _ _ H4.out HB4.out⟩
  · obtain rfl := Option.some.inj hk
    exact ⟨rfl, rfl, _, rfl, fin 0 _ _ _ _ H5.out HB5.out⟩
  · obtain rfl := Option.some.inj hk
    exact ⟨rfl, rfl, _, rfl, fin 0 _ _ _ _ H6.out HB6.out⟩
  · obtain rfl := Option.some.inj hk
    exact ⟨rfl, rfl, _, rfl, fin 0 _ _ _ _ H7.out HB7.out⟩
  · obtain rfl := Option.some.inj hk
    exact ⟨rfl, rfl, _, rfl, fin 0 _ _ _ _ H8.out HB8.out⟩
  · obtain rfl := Option.some.inj hk
    exact ⟨rfl, rfl, _, rfl, fin 0 _ _ _ _ H9.out HB9.out⟩
end
end Go.Proofs.Ytmkcphhgimlkgaa

import Derived.Test.YtohgclbgjdpggaaWireK
namespace Go.Proofs.Ytohgclbgjdpggaa
open Go.RowKit

def tFlat (xs : List Tm) : List Value := xs.flatMap Tm.cells
def putAll (l : List Tg) : List UInt8 := l.flatMap putT
theorem putAll_snoc (l : List Tg) (t : Tg) : putAll (l ++ [t]) = putAll l ++ putT t := by simp [putAll]
theorem putT_le {t : Tg} (h : OkT t) : (putT t).length ≤ 10000020 := by
  unfold putT
  split
  · have := encI_le h.n; omega
  · split
    · simp [encB]
    · split
      · have := encI_le (n := (t.d.length : Int)) (encI_ok _ h.d)
        have := h.d
        simp [encD]; omega
      · split
        · have h1 := encI_le (n := (t.l.length : Int)) (encI_ok _ h.l)
          have h2 := encIs_le t.l h.e
          have h3 := h.l
          simp [encL]; omega
        · simp
/-- values in a row -/
structure Ts (w : World) (Av : Nat → Prop) (B : Option Addr) (m : Nat) (xs : List Tm) : Prop where
  sl : Sl w Av 5 B m (tFlat xs)
  el : ∀ x ∈ xs, TmOk w Av x
  ok : ∀ x ∈ xs, OkT x.pt
theorem Ts.len {w : World} {Av : Nat → Prop} {B : Option Addr} {m : Nat} {xs : List Tm} (h : Ts w Av B m xs) : xs.length = m := by
  have := h.sl.len; rw [tFlat, flat_len Tm.cells 5 (fun _ => rfl)] at this; omega
theorem Ts.keep {S Av : Nat → Prop} {w w' : World} {B : Option Addr} {m : Nat} {xs : List Tm} (h : Ts w Av B m xs) (hk : Keep S w w') (hS : ∀ i, i < w.heap.size → S i → Av i) : Ts w' Av B m xs :=
  ⟨h.sl.keep hk hS, fun x hx => (h.el x hx).keep hk hS, h.ok⟩
theorem Ts.same {Av : Nat → Prop} {w w' : World} {B : Option Addr} {m : Nat} {xs : List Tm} (h : Ts w Av B m xs) (hk : Same w w') : Ts w' Av B m xs := h.keep hk (fun _ _ f => f.elim)
theorem Ts.wide {Av Av' : Nat → Prop} {w : World} {B : Option Addr} {m : Nat} {xs : List Tm} (h : Ts w Av B m xs) (hS : ∀ i, i < w.heap.size → Av' i → Av i) : Ts w Av' B m xs :=
  ⟨h.sl.wide hS, fun x hx => (h.el x hx).wide hS, h.ok⟩
theorem TmOk.old {w : World} {Av : Nat → Prop} {x : Tm} (h : TmOk w Av x) : TmOk w (fun i => w.heap.size ≤ i) x := ⟨h.sl.old⟩
theorem Ts.old {w : World} {Av : Nat → Prop} {B : Option Addr} {m : Nat} {xs : List Tm} (h : Ts w Av B m xs) : Ts w (fun i => w.heap.size ≤ i) B m xs := ⟨h.sl.old, fun x hx => (h.el x hx).old, h.ok⟩
theorem tFlat_get (l : List Tm) (i j : Nat) (hj : j < 5) : (tFlat l)[i * 5 + j]? = (l[i]?).bind (fun s => s.cells[j]?) := flat_get Tm.cells 5 (fun _ => rfl) l i j hj
/-- the cells of element k -/
theorem Ts.at5 {w : World} {Av : Nat → Prop} {B : Option Addr} {m : Nat} {xs : List Tm} (h : Ts w Av B m xs) {k : Nat} {x : Tm} (hx : xs[k]? = some x) : ∃ b off, B = some ⟨b, off, none⟩ ∧ b < w.heap.size ∧
    w.cell? ⟨b, off + k * 5, none⟩ = some (.int .i64 x.k) ∧ w.cell? ⟨b, off + k * 5 + 1, none⟩ = some (.int .i64 x.n) ∧ w.cell? ⟨b, off + k * 5 + 2, none⟩ = some (.bool x.b) ∧ w.cell? ⟨b, off + k * 5 + 3, none⟩ = some (.string x.s) ∧ w.cell? ⟨b, off + k * 5 + 4, none⟩ = some (.slice x.A x.m x.c) := by
  have hk := (List.getElem?_eq_some_iff.1 hx).1
  obtain ⟨b, off, e, hb, _, hr⟩ := h.sl.at_ (by have := h.len; omega)
  have g := fun j (hj : j < 5) u (hu : x.cells[j]? = some u) => hr (k * 5 + j) u (by rw [tFlat_get xs k j hj, hx]; exact hu)
  refine ⟨b, off, e, hb, ?_, ?_, ?_, ?_, ?_⟩
  · exact g 0 (by omega) _ rfl
  · exact g 1 (by omega) _ rfl
  · exact g 2 (by omega) _ rfl
  · exact g 3 (by omega) _ rfl
  · exact g 4 (by omega) _ rfl

/-- new bytes, somewhere -/
def BytesNew (w : World) (bs : List UInt8) (e : Ending) (w' : World) : Prop :=
  ∃ g, e = .returned (.slice (some ⟨g, 0, none⟩) bs.length bs.length) ∧ w.heap.size ≤ g ∧ Blk w' g 5 (bcells bs).toArray ∧ Same w w'
/-- the state of all's loop -/
def AllI (w : World) (wb : Nat) (bs : List UInt8) (wr : World) : Prop :=
  ∃ (r A : Option _) (c : Nat), Wr wr wb r A c bs ∧ Same w wr ∧ ∀ g, r = some g → w.heap.size ≤ g

set_option maxHeartbeats 2000000 in
theorem all_any (w : World) (Av : Nat → Prop) (B : Option Addr) (m d : Nat) (xs : List Tm) (h : Ts w Av B m xs) (hm : m ≤ 1000) (hall : (putAll (xs.map Tm.pt)).length ≤ 10000000) :
    Calls Try.prog 17 #[.slice B m d] w (BytesNew w (putAll (xs.map Tm.pt))) := by
  have H := hid h.old
  have hlen := hid h.len
  have hk0 : Same w (w.alloc (.cells #[.slice none 0 0] 46)) := (Keep.refl _ w).alloc _
  have HI : Hid (AllI w w.heap.size (putAll ((xs.take 0).map Tm.pt)) (w.alloc (.cells #[.slice none 0 0] 46))) := hid
    ⟨none, none, 0, ⟨by simpa [putAll] using Blk.made w 46 #[.slice none 0 0], by simpa [putAll, bcells] using Own.nil _ 0 5 1, rfl, fun g e => by cases e⟩, hk0, fun g e => by cases e⟩
  have hbound : ∀ k, (putAll ((xs.take k).map Tm.pt)).length ≤ 10000000 := fun k => by
    refine Nat.le_trans ?_ hall
    conv => rhs; rw [← List.take_append_drop k xs, List.map_append, putAll, List.flatMap_append]
    simp [putAll]
  have HBD := hid hbound
  clear h hall hk0 hbound
  go_enter Try.func17, Try.ntmps17
  go_wp2
  go_loopw [8] (fun i wr => ∃ k : Nat, k ≤ m ∧ i = .int .i64 k ∧ AllI w w.heap.size (putAll ((xs.take k).map Tm.pt)) wr) (fun i _ => m - (RowKit.intOf i).toNat)
  case atStart => exact ⟨0, by omega, rfl, HI.out⟩
  case round =>
    obtain ⟨k, hkm, rfl, r, A, c, hW, hK, hr⟩ := hrel
    by_cases hlt : k < m
    · obtain ⟨x, hx⟩ := get_some (l := xs) (k := k) (by have := hlen.out; omega)
      have hT := H.out.same hK
      obtain ⟨b, off, rfl, hb, q0, q1, q2, q3, q4⟩ := hT.at5 hx
      have hxm := List.mem_of_getElem? hx
      have hka : Same wr (wr.alloc (.cells x.cells.toArray 33)) := (Keep.refl _ wr).alloc _
      have HC := hid (write_any _ w.heap.size r A c _ (hW.same hka) (Nat.le_trans (HBD.out k) (by omega)) x (((hT.el x hxm).same hka).wide (fun i _ hs => by
        rcases hs with hs | hs
        · omega
        · exact hr i hs.symm)) (hT.ok x hxm))
      have HN := hid (show putAll ((xs.take (k + 1)).map Tm.pt) = putAll ((xs.take k).map Tm.pt) ++ putT x.pt by rw [take_snoc hx, List.map_append]; exact putAll_snoc _ _)
      have HK := hid (hK.then hka)
      have HR := hid hr
      clear hx hT hxm hka hW hK hr
      obtain ⟨kk, n, bo, s, C, cm, cc, l⟩ := x
      simp only [Tm.cells] at q0 q1 q2 q3 q4 HC HK
      go_wp2_with fail
      refine HC.out.mono ?_
      rintro e w3 ⟨r3, A3, c3, rfl, g1, g2, g3⟩
      have HQ : Hid (AllI w w.heap.size (putAll ((xs.take (k + 1)).map Tm.pt)) w3) := hid ⟨r3, A3, c3, by rw [HN.out]; exact g1, HK.out.trans g2 (fun i hi hs => by
          rcases hs with hs | hs
          · omega
          · have := HR.out i hs.symm; omega), fun g e => by
          rcases g3 g e with h | h
          · exact HR.out g h
          · exact Nat.le_trans HK.out.size h⟩
      clear g1 g2 g3
      go_wp2
      go_roundw
      case rel => exact ⟨k + 1, by omega, by go_num, HQ.out⟩
      case measure => simp [RowKit.intOf]; omega
    · have e1 : xs.take k = xs := List.take_of_length_le (by have := hlen.out; omega)
      have hb := HBD.out k
      rw [e1] at hW hb
      have HC := hid (encoded_any wr w.heap.size r A c _ hW (by omega))
      have HK := hid hK
      clear hW hK hr e1 hb
      go_wp2_with fail
      refine HC.out.mono ?_
      rintro e w3 ⟨rfl, g1, g2⟩
      go_wp2
      go_ret
      exact ⟨wr.heap.size, rfl, HK.out.size, g1, HK.out.then g2⟩
end Go.Proofs.Ytohgclbgjdpggaa

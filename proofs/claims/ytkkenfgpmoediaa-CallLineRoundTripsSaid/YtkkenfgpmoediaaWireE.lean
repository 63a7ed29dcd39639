import Derived.Test.YtkkenfgpmoediaaWireD
namespace Go.Proofs.Ytkkenfgpmoediaa
open Go.RowKit

theorem u_str : Try.prog.underlying 9 = some .string := by kernel_rfl

set_option maxHeartbeats 1000000 in
theorem wString_any (w : World) (wb : Nat) (r : Option Nat) (A : Option Addr) (c : Nat) (bs : List UInt8) (h : Wr w wb r A c bs) (hn : bs.length ≤ 100000000) (s : ByteArray) (hm : s.size ≤ 1000000) :
    Calls Try.prog 26 #[.pointer (some ⟨wb, 0, none⟩), .string s] w (WPost w wb r (bs ++ encD s.data.toList)) := by
  have hml : s.data.toList.length = s.size := Array.length_toList
  have HL := hid h.lt
  have H1 := hid (wInt_any w wb r A c bs h (by omega) s.size (by omega) (by omega))
  have hie := encI_le (n := (s.size : Int)) ⟨by omega, by omega⟩
  have HE := hid (show bs ++ encD s.data.toList = bs ++ encI (s.size : Int) ++ s.data.toList by rw [encD, hml]; simp)
  have hel : (bs ++ encI (s.size : Int)).length ≤ 100000010 := by simp; omega
  rw [HE.out]
  generalize bs ++ encI (s.size : Int) = bs1 at *
  have Hml := hid hml
  clear h hie HE hml
  go_enter Try.func26, Try.ntmps26
  go_wp2_with fail
  refine H1.out.mono ?_
  rintro e w1 ⟨r1, A1, c1, rfl, hW, hK, hg⟩
  have c0 := hW.c0
  have hz := hW.top.lt
  have hk : Same w1 w1 := Keep.refl _ _
  have HO := hid hW.row
  have HW := hid hW
  have HK := hid hK
  have HG := hid hg
  clear hW hK hg H1
  go_wp2_with (
    at_builtin
    refine EBy.lawStr u_str (.tmp 12) (.tmp 13) (.slice A1 bs1.length c1) s rfl rfl rfl rfl 0 bs1.length (bcells bs1) (bs1.length + s.size) _ rfl rfl HO.out (by omega) (by unfold maxLen; omega) (Nat.zero_le _) ?_
    intro A' c' w2 ho hg hw
    obtain ⟨hp1, hp2, hp3, hp4, hp5⟩ := HW.out.push (bs' := bs1 ++ s.data.toList) hk (by rw [bcells_app]) (by rw [List.length_append, Hml.out]) ho hg hw
    have HP := hid (And.intro hp1 (And.intro hp2 hp3))
    clear ho hg hw hp1 hp2 hp3)
  go_end0
  have hq := WPost.next HL.out HK.out HG.out HP.out.2.1 HP.out.2.2
  exact ⟨_, A', c', rfl, HP.out.1, hq.1, hq.2⟩

theorem encIs_snoc (l : List Int) (x : Int) : encIs (l ++ [x]) = encIs l ++ encI x := by simp [encIs]
theorem encIs_le (l : List Int) (h : ∀ x ∈ l, i64ok x) : (encIs l).length ≤ l.length * 10 := by
  induction l with
  | nil => simp [encIs]
  | cons x l ih =>
    rw [encIs_cons, List.length_append, List.length_cons]
    have := ih (fun y hy => h y (by simp [hy]))
    have := encI_le (h x (by simp))
    omega
/-- a round of Ints -/
def WIs (w : World) (wb : Nat) (r : Option Nat) (bs : List UInt8) (wr : World) : Prop :=
  ∃ (r' A' : Option _) (c' : Nat), Wr wr wb r' A' c' bs ∧ Keep (fun i => i = wb ∨ some i = r) w wr ∧ (∀ g, r' = some g → r = some g ∨ w.heap.size ≤ g)

set_option maxHeartbeats 1000000 in
theorem wInts_any (w : World) (wb : Nat) (r : Option Nat) (A : Option Addr) (c : Nat) (bs : List UInt8) (h : Wr w wb r A c bs) (hn : bs.length ≤ 100000000) (B : Option Addr) (m d : Nat) (l : List Int) (hB : Sl w (fun i => i = wb ∨ some i = r) 1 B m (l.map (.int .i64))) (hm : m ≤ 1000000) (hok : ∀ x ∈ l, i64ok x) :
    Calls Try.prog 27 #[.pointer (some ⟨wb, 0, none⟩), .slice B m d] w (WPost w wb r (bs ++ encL l)) := by
  have hml : l.length = m := by have := hB.len; simpa using this
  have HL := hid h.lt
  have H1 := hid (wInt_any w wb r A c bs h (by omega) m (by omega) (by omega))
  have HB := hid hB
  have HOK := hid hok
  have hie := encI_le (n := (m : Int)) ⟨by omega, by omega⟩
  have HE := hid (show bs ++ encL l = bs ++ encI (m : Int) ++ encIs l by rw [encL, hml]; simp)
  have hel : (bs ++ encI (m : Int)).length ≤ 100000010 := by simp; omega
  rw [HE.out]
  generalize bs ++ encI (m : Int) = bs1 at *
  have Hml := hid hml
  clear h hB hie HE hok hml
  go_enter Try.func27, Try.ntmps27
  go_wp2_with fail
  refine H1.out.mono ?_
  rintro e w1 ⟨r1, A1, c1, rfl, hW, hK, hg⟩
  have HS0 : Hid (WIs w wb r (bs1 ++ encIs (l.take 0)) w1) := hid ⟨r1, A1, c1, by simpa [encIs] using hW, hK, hg⟩
  clear hW hK hg H1
  go_wp2
  go_loopw [12] (fun i wr => ∃ k : Nat, k ≤ m ∧ i = .int .i64 k ∧ WIs w wb r (bs1 ++ encIs (l.take k)) wr) (fun i _ => m - (RowKit.intOf i).toNat)
  case atStart => exact ⟨0, by omega, rfl, HS0.out⟩
  case round =>
    obtain ⟨k, hkm, rfl, r2, A2, c2, hW, hK, hg⟩ := hrel
    have HK := hid hK
    have HG := hid hg
    by_cases hlt : k < m
    · obtain ⟨x, hx⟩ := get_some (l := l) (k := k) (by have := Hml.out; omega)
      have hxo := HOK.out x (List.mem_of_getElem? hx)
      have hx0 : wr.cell? ((B.getD ⟨0, 0, none⟩).add k) = some (.int .i64 x) := by
        obtain ⟨b, off, rfl, hb, ha, hr⟩ := HB.out.at_ (by omega)
        show wr.cell? ((⟨b, off, none⟩ : Addr).add k) = _
        rw [add_blk]
        exact (hK.cell (p := ⟨b, off + k, none⟩) hb ha).trans (hr k _ (by simp [hx]))
      have HN := hid (show bs1 ++ encIs (l.take (k + 1)) = bs1 ++ encIs (l.take k) ++ encI x by rw [take_snoc hx, encIs_snoc]; simp)
      have hle : (bs1 ++ encIs (l.take k)).length ≤ 1000000000 := by
        have := encIs_le (l.take k) (fun y hy => HOK.out y (List.mem_of_mem_take hy))
        simp at this ⊢; omega
      have HI := hid (wInt_any wr wb r2 A2 c2 _ hW hle x hxo.1 hxo.2)
      obtain ⟨b, off, rfl, hb, ha, _⟩ := HB.out.at_ (by omega)
      rw [Option.getD_some, add_blk] at hx0
      clear hW hK hg hx hle hxo
      go_wp2_with fail
      refine HI.out.mono ?_
      rintro e w3 ⟨r3, A3, c3, rfl, hW3, hK3, hg3⟩
      have hq := WPost.next HL.out HK.out HG.out hK3 hg3
      have HQ : Hid (WIs w wb r (bs1 ++ encIs (l.take (k + 1))) w3) := hid ⟨r3, A3, c3, by rw [HN.out]; exact hW3, hq.1, hq.2⟩
      clear hW3 hK3 hg3 hq
      go_wp2
      go_roundw
      case rel => exact ⟨k + 1, by omega, by go_num, HQ.out⟩
      case measure => simp [RowKit.intOf]; omega
    · have e1 : l.take k = l := List.take_of_length_le (by have := Hml.out; omega)
      rw [e1] at hW
      have HW := hid hW
      clear hW hK hg e1
      go_wp2
      go_end0
      exact ⟨_, _, _, rfl, HW.out, HK.out, HG.out⟩

/-! ## What was written; a reader's start -/
/-- a new block that holds bytes -/
def NewBytes (w : World) (bs : List UInt8) (e : Ending) (w' : World) : Prop :=
  e = .returned (.slice (some ⟨w.heap.size, 0, none⟩) bs.length bs.length) ∧ Blk w' w.heap.size 5 (bcells bs).toArray ∧ Same w w'

set_option maxHeartbeats 1000000 in
theorem encoded_any (w : World) (wb : Nat) (r : Option Nat) (A : Option Addr) (c : Nat) (bs : List UInt8) (h : Wr w wb r A c bs) (hn : bs.length ≤ 1000000000) :
    Calls Try.prog 28 #[.pointer (some ⟨wb, 0, none⟩)] w (NewBytes w bs) := by
  have H := hid h
  have c0 := h.c0
  have hz := h.top.lt
  have hmk := EBy.make .i64 .i64 (bs.length : Int) (bs.length : Int) (by omega) (by omega) (by omega) (by omega) w
  simp only [Int.toNat_natCast, Nat.mul_one] at hmk
  have hB := Blk.made w 5 (madeCells (Value.int .u8 0).cells bs.length)
  have hk : Same w (w.alloc (.cells (madeCells (Value.int .u8 0).cells bs.length) 5)) := (Keep.refl _ w).alloc _
  have HB := hid hB
  have HK := hid hk
  have HS := hid (h.sl.wide (Av' := fun i => i = wb ∨ ¬ some i = r) (fun _ _ h => h))
  have hcs : (madeCells (Value.int .u8 0).cells bs.length).size = bs.length := by simp [madeCells, Value.cells]
  have HC := hid hcs
  have c1 : (w.alloc (.cells (madeCells (Value.int .u8 0).cells bs.length) 5)).cell? ⟨wb, 0, none⟩ = some (.slice A bs.length c) := (H.out.same hk).c0
  clear h hB hk hcs
  generalize madeCells (Value.int .u8 0).cells bs.length = cur at *
  go_enter Try.func28, Try.ntmps28
  go_wp2_with (with_reducible refine copy_all EBy (.tmp 10) (.tmp 14) w.heap.size bs.length bs.length A bs.length c rfl rfl rfl rfl cur HB.out HC.out _ (bcells bs) (HS.out.keep HK.out (fun _ _ f => f.elim)) (Nat.le_refl _) (bcells_one bs) ?_)
  intro w2 hB2 hK2
  have e1 : (bcells bs).take bs.length = bcells bs := List.take_of_length_le (by rw [bcells_len]; omega)
  rw [e1] at hB2
  have HB2 := hid hB2
  have HK2 := hid (HK.out.trans hK2 (fun i hi e => by omega))
  clear hB2 hK2 e1
  go_wp2
  go_ret
  exact ⟨rfl, HB2.out, HK2.out⟩

/-! ## A reader in memory -/
structure Rd (w : World) (rb : Nat) (Av : Nat → Prop) (A : Option Addr) (n c : Nat) (s : RS) : Prop where
  top : Blk w rb 74 #[.slice A n c, .int .i64 s.err]
  sl : Sl w (fun i => Av i ∨ i = rb) 1 A n (bcells s.rest)
  cap : n ≤ c
  av : ¬ Av rb
section
variable {w w' : World} {S Av Av' : Nat → Prop} {rb : Nat} {A : Option Addr} {n c : Nat} {s : RS}
theorem Rd.len (h : Rd w rb Av A n c s) : s.rest.length = n := by have := h.sl.len; simpa [bcells] using this
theorem Rd.keep (h : Rd w rb Av A n c s) (hk : Keep S w w') (hS : ∀ i, i < w.heap.size → S i → Av i) : Rd w' rb Av A n c s :=
  ⟨h.top.keep hk (fun hs => h.av (hS _ h.top.lt hs)), h.sl.keep hk (fun i hi hs => .inl (hS i hi hs)), h.cap, h.av⟩
theorem Rd.same (h : Rd w rb Av A n c s) (hk : Same w w') : Rd w' rb Av A n c s := h.keep hk (fun _ _ f => f.elim)
theorem Rd.wide (h : Rd w rb Av A n c s) (hS : ∀ i, i < w.heap.size → Av' i → Av i) : Rd w rb Av' A n c s :=
  ⟨h.top, h.sl.wide (fun i hi hs => hs.elim (fun a => .inl (hS i hi a)) .inr), h.cap, fun a => h.av (hS _ h.top.lt a)⟩
end

/-- a new reader of bytes -/
def NewRd (w : World) (bs : List UInt8) (e : Ending) (w' : World) : Prop :=
  ∃ rb A c, e = .returned (.pointer (some ⟨rb, 0, none⟩)) ∧ w.heap.size ≤ rb ∧ Rd w' rb (· < w.heap.size) A bs.length c ⟨bs, 0⟩ ∧ Same w w'

set_option maxHeartbeats 1000000 in
theorem newReader_any (w : World) (Av : Nat → Prop) (A : Option Addr) (n c : Nat) (bs : List UInt8) (h : Sl w Av 1 A n (bcells bs)) (hn : n ≤ 1000000000) :
    Calls Try.prog 39 #[.slice A n c] w (NewRd w bs) := by
  have hl : bs.length = n := by have := h.len; simpa [bcells] using this
  have hmk := EBy.make .i64 .i64 (n : Int) (n : Int) (by omega) (by omega) (by omega) (by omega) w
  simp only [Int.toNat_natCast, Nat.mul_one] at hmk
  have HB := hid (Blk.made w 5 (madeCells (Value.int .u8 0).cells n))
  have hk : Same w (w.alloc (.cells (madeCells (Value.int .u8 0).cells n) 5)) := (Keep.refl _ w).alloc _
  have HK := hid hk
  have HS := hid h
  have HC := hid (show (madeCells (Value.int .u8 0).cells n).size = n by simp [madeCells, Value.cells])
  have HLn := hid hl
  clear h hk hl
  generalize madeCells (Value.int .u8 0).cells n = cur at *
  go_enter Try.func39, Try.ntmps39
  go_wp2_with (with_reducible refine copy_all EBy (.tmp 7) (.tmp 8) w.heap.size n n A n c rfl rfl rfl rfl cur HB.out HC.out _ (bcells bs) (HS.out.keep HK.out (fun _ _ f => f.elim)) (Nat.le_refl _) (bcells_one bs) ?_)
  intro w2 hB2 hK2
  have e1 : (bcells bs).take n = bcells bs := List.take_of_length_le (by rw [bcells_len, HLn.out]; omega)
  rw [e1] at hB2
  have HB2 := hid hB2
  have HK2 := hid (HK.out.trans hK2 (fun i hi e => by omega))
  have hz := hB2.lt
  clear hB2 hK2 e1
  go_wp2
  go_ret
  have hk3 : Same w2 (w2.alloc (.cells #[.slice (some ⟨w.heap.size, 0, none⟩) n n, .int .i64 0] 74)) := (Keep.refl _ w2).alloc _
  refine ⟨w2.heap.size, some ⟨w.heap.size, 0, none⟩, n, rfl, by omega, ?_, HK2.out.then hk3⟩
  rw [HLn.out]
  refine ⟨Blk.made _ _ _, ?_, Nat.le_refl _, by omega⟩
  exact Sl.of_blk (HB2.out.keep hk3 (fun f => f)) (by simp [HLn.out]) (by simp; omega)
end Go.Proofs.Ytkkenfgpmoediaa

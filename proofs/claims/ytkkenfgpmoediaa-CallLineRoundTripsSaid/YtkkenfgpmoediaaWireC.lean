import Derived.Test.YtkkenfgpmoediaaStep
import Derived.Test.YtkkenfgpmoediaaWireB
import Derived.Lib.Zigzag
import Derived.Lib.AppendStr
namespace Go.Proofs.Ytkkenfgpmoediaa
open Go.RowKit

/-! ## A writer in memory -/
def bv (b : UInt8) : Value := .int .u8 (b.toNat : Int)
def bcells (l : List UInt8) : List Value := l.map bv
theorem bcells_one (l : List UInt8) : ∀ u ∈ bcells l, u.oneCell' = true := by
  intro u hu
  simp only [bcells, List.mem_map] at hu
  obtain ⟨b, _, rfl⟩ := hu
  rfl
theorem bcells_len (l : List UInt8) : (bcells l).length = l.length := by simp [bcells]
theorem bcells_app (l m : List UInt8) : bcells (l ++ m) = bcells l ++ bcells m := by simp [bcells]
theorem EBy : Elem Try.prog 39 5 1 1 (.int .u8 0) := ⟨Try.underlying39, by kernel_rfl, rfl, by decide⟩

structure Wr (w : World) (wb : Nat) (r : Option Nat) (A : Option Addr) (c : Nat) (bs : List UInt8) : Prop where
  top : Blk w wb 57 #[.slice A bs.length c]
  row : Own w 0 5 1 (.slice A bs.length c) bs.length (bcells bs)
  at_ : A.map (·.block) = r
  ne : ∀ g, r = some g → g ≠ wb
/-- What a writer's method leaves. -/
def WPost (w : World) (wb : Nat) (r : Option Nat) (bs : List UInt8) (e : Ending) (w' : World) : Prop :=
  ∃ r' A' c', e = .returned (.tuple #[]) ∧ Wr w' wb r' A' c' bs ∧ Keep (fun i => i = wb ∨ some i = r) w w' ∧ (∀ g, r' = some g → r = some g ∨ w.heap.size ≤ g)
section
variable {w w' : World} {S : Nat → Prop} {wb : Nat} {r : Option Nat} {A : Option Addr} {c : Nat} {bs : List UInt8}
theorem Wr.ownBlock (h : Wr w wb r A c bs) : (Value.slice A bs.length c).ownBlock = r := by
  rw [← h.at_]; cases A <;> rfl
theorem Wr.lt (h : Wr w wb r A c bs) (g : Nat) (e : r = some g) : g < w.heap.size := h.row.lt g (by rw [h.ownBlock]; exact e)
theorem Wr.keep (h : Wr w wb r A c bs) (hk : Keep S w w') (h1 : ¬ S wb) (h2 : ∀ g, r = some g → ¬ S g) : Wr w' wb r A c bs :=
  ⟨h.top.keep hk h1, h.row.keepB hk (fun g e => h2 g (by rw [← h.ownBlock]; exact e)), h.at_, h.ne⟩
theorem Wr.same (h : Wr w wb r A c bs) (hk : Same w w') : Wr w' wb r A c bs := h.keep hk (fun f => f) (fun _ _ f => f)
theorem Wr.c0 (h : Wr w wb r A c bs) : w.cell? ⟨wb, 0, none⟩ = some (.slice A bs.length c) := h.top.at_ 0
theorem Wr.sl (h : Wr w wb r A c bs) : Sl w (fun i => i = wb ∨ ¬ some i = r) 1 A bs.length (bcells bs) := by
  refine ⟨by simp [bcells], fun hn => ?_⟩
  obtain ⟨g, cur, hA, _, hB, _, _, _, ht⟩ := h.row.open_ hn
  have hr : r = some g := by rw [← h.at_, hA]; rfl
  refine ⟨g, 0, hA, hB.lt, fun f => ?_, ?_⟩
  · rcases f with f | f
    · exact h.ne g hr f
    · exact f hr.symm
  · intro j u hu
    have := Row.of_blk hB j u
    rw [← ht] at hu
    rw [List.getElem?_take] at hu
    split at hu
    · exact this (by simpa using hu)
    · simp at hu
/-- Bytes are added at the end. -/
theorem Wr.push {w1 w2 : World} (h : Wr w wb r A c bs) (hk : Same w w1) {A' : Option Addr} {c' k : Nat} {ys : List Value} {bs' : List UInt8} (hys : ys = bcells bs') (hkn : k = bs'.length)
    (ho : Own w2 0 5 1 (.slice A' k c') k ys) (hg : w1.grownBy w2 (Value.slice A bs.length c).ownBlock) (hwh : A'.map (·.block) = (Value.slice A bs.length c).ownBlock ∨ A'.map (·.block) = some w1.heap.size) :
    Wr (w2.setCell ⟨wb, 0, none⟩ (.slice A' k c')) wb (A'.map (·.block)) A' c' bs' ∧ Keep (fun i => i = wb ∨ some i = r) w (w2.setCell ⟨wb, 0, none⟩ (.slice A' k c')) ∧ (∀ g, A'.map (·.block) = some g → r = some g ∨ w.heap.size ≤ g) ∧
      w2.cell? ⟨wb, 0, none⟩ = some (.slice A bs.length c) ∧ w2.frozen? ⟨wb, 0, none⟩ = false := by
  subst hys hkn
  have hob := h.ownBlock
  rw [hob] at hg hwh
  have hwb := h.top.lt
  have h5 := hk.size
  have hrlt := h.lt
  have hrn := h.ne
  have hk7 : Keep (fun i => some i = r) w w2 := (hk.wide (fun _ _ f => f.elim)).grown hg (fun g e _ => e.symm)
  have ht7 : Blk w2 wb 57 #[.slice A bs.length c] := h.top.keep hk7 (fun e => hrn wb e.symm rfl)
  have hnew : ∀ g, A'.map (·.block) = some g → r = some g ∨ w1.heap.size ≤ g := by
    intro g e
    rcases hwh with h1 | h1
    · left; rw [← h1, e]
    · right; rw [e] at h1; injection h1 with h1; omega
  have hne : ∀ g, A'.map (·.block) = some g → g ≠ wb := by
    intro g e
    rcases hnew g e with h1 | h1
    · exact hrn g h1
    · omega
  have hk8 : Keep (· = wb) w2 (w2.setCell ⟨wb, 0, none⟩ (.slice A' bs'.length c')) := (Keep.refl _ w2).put 0 _
  refine ⟨⟨?_, ?_, rfl, hne⟩, ?_, ?_, ht7.at_ 0, ht7.free 0⟩
  · have := ht7.put 0 (.slice A' bs'.length c')
    simpa using this
  · exact ho.keepB hk8 (fun g e => hne g (by rw [← e]; cases A' <;> rfl))
  · exact (hk7.wide (fun _ _ h => .inr h)).trans hk8 (fun _ _ h => .inl h)
  · intro g e
    rcases hnew g e with h1 | h1
    · exact .inl h1
    · exact .inr (by omega)
end

/-! ## Writing -/
theorem zz_pos {n : Int} (h0 : 0 ≤ n) (h1 : n ≤ 9223372036854775807) : bits .xor .u64 (n * 2) (n / 9223372036854775808) = ((Lib.zigzag n : Nat) : Int) := by
  rw [Lib.zigzag_nonneg h0, show n / 9223372036854775808 = 0 by omega]
  obtain ⟨k, rfl⟩ := Int.eq_ofNat_of_zero_le h0
  have := bits_xor_u64_nat (k * 2) 0 (by omega) (by omega)
  simpa using this
theorem zz_neg {n : Int} (h0 : -9223372036854775808 ≤ n) (h1 : n < 0) : bits .xor .u64 (IntKind.u64.wrap (IntKind.u64.wrap n * 2)) (IntKind.u64.wrap (n / 9223372036854775808)) = ((Lib.zigzag n : Nat) : Int) := by
  rw [← Lib.zigzag_neg h0 h1, show n / 9223372036854775808 = -1 by omega]
  have e1 : IntKind.u64.wrap (IntKind.u64.wrap n * 2) = (((2 * n + 18446744073709551616).toNat : Nat) : Int) := by
    rw [IntKind.wrap_u64, IntKind.wrap_u64]; omega
  have e2 : IntKind.u64.max = ((2 ^ 64 - 1 : Nat) : Int) := by decide
  have e3 : IntKind.u64.wrap (-1) = ((2 ^ 64 - 1 : Nat) : Int) := by decide
  rw [e1, e2, e3, bits_xor_u64_nat _ _ (by omega) (by decide), bits_xor_u64_nat _ _ (by decide) (by omega), Nat.xor_comm]

/-- the loop of Int: x is still to be written -/
def WLoop (w : World) (wb : Nat) (r : Option Nat) (all : List UInt8) (u : Value) (wr : World) : Prop :=
  ∃ (x : Int) (r' A' : Option _) (c' : Nat) (bs' : List UInt8), u = .int .u64 x ∧ (0 ≤ x ∧ x ≤ 18446744073709551615) ∧ Wr wr wb r' A' c' bs' ∧ bs' ++ Lib.uvarint x.toNat = all ∧ Keep (fun i => i = wb ∨ some i = r) w wr ∧ (∀ g, r' = some g → r = some g ∨ w.heap.size ≤ g)
theorem WPost.next {w w1 w2 : World} {wb : Nat} {r r1 r2 : Option Nat} (_hl : ∀ g, r = some g → g < w.heap.size) (h1 : Keep (fun i => i = wb ∨ some i = r) w w1) (g1 : ∀ g, r1 = some g → r = some g ∨ w.heap.size ≤ g)
    (h2 : Keep (fun i => i = wb ∨ some i = r1) w1 w2) (g2 : ∀ g, r2 = some g → r1 = some g ∨ w1.heap.size ≤ g) : Keep (fun i => i = wb ∨ some i = r) w w2 ∧ ∀ g, r2 = some g → r = some g ∨ w.heap.size ≤ g := by
  refine ⟨h1.trans h2 (fun i hi hs => ?_), fun g e => ?_⟩
  · rcases hs with hs | hs
    · exact .inl hs
    · rcases g1 i hs.symm with h | h
      · exact .inr h.symm
      · omega
  · rcases g2 g e with h | h
    · exact g1 g h
    · exact .inr (Nat.le_trans h1.size h)

set_option maxHeartbeats 2000000 in
theorem wInt_any (w : World) (wb : Nat) (r : Option Nat) (A : Option Addr) (c : Nat) (bs : List UInt8) (h : Wr w wb r A c bs) (hn : bs.length ≤ 1000000000) (n : Int) (h0 : -9223372036854775808 ≤ n) (h1 : n ≤ 9223372036854775807) :
    Calls Try.prog 25 #[.pointer (some ⟨wb, 0, none⟩), .int .i64 n] w (WPost w wb r (bs ++ encI n)) := by
  have H := hid h
  have HL := hid h.lt
  have hle : (bs ++ encI n).length ≤ 1000000010 := by have := encI_le (n := n) ⟨h0, h1⟩; simp; omega
  have hzz := zigzag_ok (n := n) ⟨h0, h1⟩
  have hst : ∀ z : Int, z = ((Lib.zigzag n : Nat) : Int) → WLoop w wb r (bs ++ encI n) (.int .u64 z) w := fun z hz => ⟨z, r, A, c, bs, rfl, by omega, h, by rw [hz]; rfl, Keep.refl _ _, fun g e => .inl e⟩
  have HST := hid hst
  generalize bs ++ encI n = all at *
  clear h hzz hst
  by_cases hs : 0 ≤ n
  all_goals
    go_enter Try.func25, Try.ntmps25
    go_wp2
    go_loopw [4] (fun u wr => WLoop w wb r all u wr) (fun u _ => (RowKit.intOf u).toNat)
    case atStart =>
      refine HST.out _ ?_
      first | (with_reducible exact zz_pos hs h1) | (with_reducible exact zz_neg h0 (by omega))
    case round =>
      obtain ⟨x, r1, A1, c1, bs1, rfl, ⟨hx0, hx1⟩, hW, hall, hK, hg⟩ := hrel
      have hb1 : bs1.length ≤ 1000000010 := by rw [← hall] at hle; simp at hle; omega
      have c0 := hW.c0
      have hz := hW.top.lt
      have HK := hid hK
      have HG := hid hg
      by_cases hx2 : 128 ≤ x
      · have hbb : bits .or .u8 (x % 256) 128 = x % 128 + 128 := by rw [Lib.u8_or128_any _ (by omega) (by omega)]; omega
        have hk : Same wr (wr.alloc (.cells #[.int .u8 (x % 128 + 128)] 5)) := (Keep.refl _ wr).alloc _
        have HO := hid (World.ownsRow.alloc hW.row (.cells #[.int .u8 (x % 128 + 128)] 5))
        have HN := hid (show bs1 ++ [(x.toNat % 128 + 128).toUInt8] ++ Lib.uvarint (x / 128).toNat = all by rw [← hall, Lib.uvarint_big (x := x.toNat) (by omega), show (x / 128).toNat = x.toNat / 128 by omega]; simp)
        have HB := hid (show bcells bs1 ++ [.int .u8 (x % 128 + 128)] = bcells (bs1 ++ [(x.toNat % 128 + 128).toUInt8]) by
          rw [bcells_app]; congr 1; simp only [bcells, List.map_cons, List.map_nil, bv, u8_small (show x.toNat % 128 + 128 < 256 by omega)]; congr 2; omega)
        have H1 := hid hW
        clear hW hall hK hg
        go_wp2_with (
          at_builtin
          refine EBy.law2 (.tmp 18) (.tmp 22) (.slice A1 bs1.length c1) (some ⟨wr.heap.size, 0, none⟩) 1 1 rfl rfl rfl rfl 0 bs1.length (bcells bs1) [.int .u8 (x % 128 + 128)] (bs1.length + 1) _ rfl rfl HO.out rfl (fun _ => ⟨_, rfl, src_new rfl⟩) (by intro u hu; simp at hu; subst hu; rfl) (by omega) (by unfold maxLen; omega) (Nat.zero_le _) ?_
          intro A' c' w2 ho hg hw
          obtain ⟨hp1, hp2, hp3, hp4, hp5⟩ := H1.out.push (bs' := bs1 ++ [(x.toNat % 128 + 128).toUInt8]) hk HB.out (by simp) ho hg hw
          have HP := hid (And.intro hp1 (And.intro hp2 hp3))
          clear ho hg hw hp1 hp2 hp3)
        go_roundw
        case rel =>
          have hq := WPost.next HL.out HK.out HG.out HP.out.2.1 HP.out.2.2
          exact ⟨x / 128, _, A', c', _, rfl, by omega, HP.out.1, HN.out, hq.1, hq.2⟩
        case measure => simp [RowKit.intOf]; omega
      · have hxm : x % 256 = x := by omega
        have hk : Same wr (wr.alloc (.cells #[.int .u8 x] 5)) := (Keep.refl _ wr).alloc _
        have HO := hid (World.ownsRow.alloc hW.row (.cells #[.int .u8 x] 5))
        have HN := hid (show bs1 ++ [x.toNat.toUInt8] = all by rw [← hall, Lib.uvarint_small (by omega)])
        have HB := hid (show bcells bs1 ++ [.int .u8 x] = bcells (bs1 ++ [x.toNat.toUInt8]) by
          rw [bcells_app]; congr 1; simp only [bcells, List.map_cons, List.map_nil, bv, u8_small (show x.toNat < 256 by omega)]; congr 2; omega)
        have H1 := hid hW
        clear hW hall hK hg
        go_wp2_with (
          at_builtin
          refine EBy.law2 (.tmp 32) (.tmp 35) (.slice A1 bs1.length c1) (some ⟨wr.heap.size, 0, none⟩) 1 1 rfl rfl rfl rfl 0 bs1.length (bcells bs1) [.int .u8 x] (bs1.length + 1) _ rfl rfl HO.out rfl (fun _ => ⟨_, rfl, src_new rfl⟩) (by intro u hu; simp at hu; subst hu; rfl) (by omega) (by unfold maxLen; omega) (Nat.zero_le _) ?_
          intro A' c' w2 ho hg hw
          obtain ⟨hp1, hp2, hp3, hp4, hp5⟩ := H1.out.push (bs' := bs1 ++ [x.toNat.toUInt8]) hk HB.out (by simp) ho hg hw
          have HP := hid (And.intro hp1 (And.intro hp2 hp3))
          clear ho hg hw hp1 hp2 hp3)
        go_end0
        have hq := WPost.next HL.out HK.out HG.out HP.out.2.1 HP.out.2.2
        rw [← HN.out]
        exact ⟨_, A', c', rfl, HP.out.1, hq.1, hq.2⟩
end Go.Proofs.Ytkkenfgpmoediaa

import Derived.Test.YtohgclbgjdpggaaWireJ
import Derived.Lib.ConvBytes
namespace Go.Proofs.Ytohgclbgjdpggaa
open Go.RowKit

theorem read_any (w : World) (rb : Nat) (Av : Nat → Prop) (A : Option Addr) (n c : Nat) (s : RS) (h : Rd w rb Av A n c s) (hsz : s.rest.length ≤ 1000000000) (k : Int) (h0 : 0 ≤ k) (h4 : k ≤ 4) :
    Calls Try.prog 12 #[.pointer (some ⟨rb, 0, none⟩), .int .i64 k] w (TPost w rb Av (getT k s).1 (getT k s).2) := by
  have hk : k = 0 ∨ k = 1 ∨ k = 2 ∨ k = 3 ∨ k = 4 := by omega
  rcases hk with rfl | rfl | rfl | rfl | rfl
  · exact read0_any w rb Av A n c s h hsz
  · exact read1_any w rb Av A n c s h hsz
  · exact read2_any w rb Av A n c s h hsz
  · exact read3_any w rb Av A n c s h hsz
  · exact read4_any w rb Av A n c s h hsz

theorem WPost.of {w w1 : World} {wb : Nat} {r : Option Nat} {bs : List UInt8} {e : Ending} {w' : World} (hk : Same w w1) (h : WPost w1 wb r bs e w') : WPost w wb r bs e w' := by
  obtain ⟨r', A', c', h1, h2, h3, h4⟩ := h
  exact ⟨r', A', c', h1, h2, (hk.wide (fun _ _ f => f.elim)).trans h3 (fun _ _ h => h), fun g e => (h4 g e).imp id (fun h => Nat.le_trans hk.size h)⟩
/-- the block of []byte(s) -/
theorem bytes_same (w : World) (e : TypeId) (s : ByteArray) : Same w (Lib.bytesWorld w e s) :=
  ⟨rfl, rfl, rfl, by rw [Lib.bytesWorld_size]; omega, fun k hk _ => Lib.bytesWorld_at_old w e s k hk⟩
theorem bytes_sl (w : World) (e : TypeId) (s : ByteArray) (Av : Nat → Prop) (ha : ¬ Av w.heap.size) : Sl (Lib.bytesWorld w e s) Av 1 (some ⟨w.heap.size, 0, none⟩) s.size (bcells s.data.toList) := by
  have hsz : s.data.toList.length = s.size := Array.length_toList
  refine ⟨by rw [bcells_len, hsz]; omega, fun h0 => ⟨w.heap.size, 0, rfl, by rw [Lib.bytesWorld_size]; omega, ha, ?_⟩⟩
  intro j u hu
  have hj : j < s.size := by have := (List.getElem?_eq_some_iff.1 hu).1; rw [bcells_len, hsz] at this; exact this
  rw [Nat.zero_add, Lib.bytesWorld_cell w e s j hj]
  simp only [bcells, List.getElem?_map] at hu
  rw [List.getElem?_eq_getElem (by rw [hsz]; exact hj)] at hu
  simp only [Option.map_some, Option.some.injEq] at hu
  rw [← hu, List.getD_eq_getElem?_getD, List.getElem?_eq_getElem (by rw [hsz]; exact hj)]
  rfl
/-- an empty literal of the call's own -/
theorem Own.lit0 (w : World) (e : TypeId) (size : Nat) : Own (w.alloc (.cells #[] e)) w.heap.size e size (.slice (some ⟨w.heap.size, 0, none⟩) 0 0) 0 [] :=
  Own.of_blk (Nat.le_refl _) (Blk.made w e #[]) (Nat.le_refl _) (by simp) (by simp) (by simp)
theorem ints_one (hs : List Int) : ∀ u ∈ hs.map (Value.int .i64), u.oneCell' = true := by
  intro u hu; simp at hu; obtain ⟨a, _, rfl⟩ := hu; rfl

section
variable (w : World) (wb : Nat) (r : Option Nat) (A : Option Addr) (c : Nat) (bs : List UInt8) (h : Wr w wb r A c bs) (hn : bs.length ≤ 100000000) (x : Tm) (hx : TmOk w (fun i => i = wb ∨ some i = r) x) (hok : OkT x.pt)
include h hn hx hok
set_option maxHeartbeats 2000000 in
theorem write_any : Calls Try.prog 20 #[.pointer (some ⟨wb, 0, none⟩), .agg x.cells.toArray] w (WPost w wb r (bs ++ putT x.pt)) := by
  have hk0 := hok.k0
  have hk4 := hok.k4
  have hnn := hok.n
  have hd := hok.d
  have hl := hok.l
  have he := hok.e
  have hbl := hx.len
  have hka : Same w (w.alloc (.cells x.cells.toArray 33)) := (Keep.refl _ w).alloc _
  have HW := hid (h.same hka)
  have HX := hid (hx.same hka)
  have HK := hid hka
  have hwb := h.top.lt
  have HL := hid h.lt
  obtain ⟨k, n, b, s, B, m, d, l⟩ := x
  simp only [Tm.pt] at hk0 hk4 hnn hd hl he hbl
  have hsz : s.size ≤ 1000000 := by have : s.data.toList.length = s.size := Array.length_toList; omega
  have HE := hid he
  have HBL := hid hbl
  have hm : m ≤ 1000000 := by omega
  obtain ⟨hn0, hn1⟩ := hnn
  clear h hx hok hka he hd hbl
  simp only [Tm.cells] at HW HX HK ⊢
  have hk : k = 0 ∨ k = 1 ∨ k = 2 ∨ k = 3 ∨ k = 4 := by omega
  rcases hk with rfl | rfl | rfl | rfl | rfl
  · rw [show putT (Tm.pt ⟨0, n, b, s, B, m, d, l⟩) = encI n by simp [putT, Tm.pt]]
    have HC := hid (wInt_any _ wb r A c bs HW.out (by omega) n hn0 hn1)
    go_enter Try.func20, Try.ntmps20
    go_wp2_with fail
    refine HC.out.mono ?_
    rintro e w2 ⟨r2, A2, c2, rfl, g1, g2, g3⟩
    go_wp2
    go_end0
    exact WPost.of HK.out ⟨r2, A2, c2, rfl, g1, g2, g3⟩
  · rw [show putT (Tm.pt ⟨1, n, b, s, B, m, d, l⟩) = encB b by simp [putT, Tm.pt]]
    have HC := hid (wBool_any _ wb r A c bs HW.out (by omega) b)
    go_enter Try.func20, Try.ntmps20
    go_wp2_with fail
    refine HC.out.mono ?_
    rintro e w2 ⟨r2, A2, c2, rfl, g1, g2, g3⟩
    go_wp2
    go_end0
    exact WPost.of HK.out ⟨r2, A2, c2, rfl, g1, g2, g3⟩
  · rw [show putT (Tm.pt ⟨2, n, b, s, B, m, d, l⟩) = encD s.data.toList by simp [putT, Tm.pt]]
    have hcv := Lib.run_convert_string_bytes (w.alloc (.cells #[.int .i64 2, .int .i64 n, .bool b, .string s, .slice B m d] 33)) 9 22 5 s u_str Try.underlying22 Try.underlying5
    have hsm := bytes_same (w.alloc (.cells #[.int .i64 2, .int .i64 n, .bool b, .string s, .slice B m d] 33)) 5 s
    have hnr : ¬ some (w.alloc (.cells #[.int .i64 2, .int .i64 n, .bool b, .string s, .slice B m d] 33)).heap.size = r := fun e => by have := HL.out _ e.symm; simp at this; omega
    have hsl := bytes_sl (w.alloc (.cells #[.int .i64 2, .int .i64 n, .bool b, .string s, .slice B m d] 33)) 5 s (fun i => i = wb ∨ some i = r) (by rintro (h | h); simp at h; omega; exact hnr h)
    have HC := hid (fun cap => wBytes_any _ wb r A c bs (HW.out.same hsm) hn _ s.size cap s.data.toList hsl hsz)
    have HS := hid (HK.out.then hsm)
    clear hsm hsl hnr
    generalize Lib.bytesWorld (w.alloc (.cells #[.int .i64 2, .int .i64 n, .bool b, .string s, .slice B m d] 33)) 5 s = wz at *
    simp only [World.size_alloc] at hcv HC
    go_enter Try.func20, Try.ntmps20
    go_wp2_with fail
    refine (HC.out _).mono ?_
    rintro e w2 ⟨r2, A2, c2, rfl, g1, g2, g3⟩
    go_wp2
    go_end0
    exact WPost.of HS.out ⟨r2, A2, c2, rfl, g1, g2, g3⟩
  · rw [show putT (Tm.pt ⟨3, n, b, s, B, m, d, l⟩) = encD s.data.toList by simp [putT, Tm.pt]]
    have HC := hid (wString_any _ wb r A c bs HW.out (by omega) s hsz)
    go_enter Try.func20, Try.ntmps20
    go_wp2_with fail
    refine HC.out.mono ?_
    rintro e w2 ⟨r2, A2, c2, rfl, g1, g2, g3⟩
    go_wp2
    go_end0
    exact WPost.of HK.out ⟨r2, A2, c2, rfl, g1, g2, g3⟩
  · rw [show putT (Tm.pt ⟨4, n, b, s, B, m, d, l⟩) = encL l by simp [putT, Tm.pt]]
    have hk1 : Same (w.alloc (.cells #[.int .i64 4, .int .i64 n, .bool b, .string s, .slice B m d] 33)) ((w.alloc (.cells #[.int .i64 4, .int .i64 n, .bool b, .string s, .slice B m d] 33)).alloc (.cells #[] 3)) := (Keep.refl _ _).alloc _
    have HSR := hid (HX.out.sl.src hk1)
    have HLN := hid HX.out.sl.len
    have hol := Own.lit0 (w.alloc (.cells #[.int .i64 4, .int .i64 n, .bool b, .string s, .slice B m d] 33)) 3 1
    rw [World.size_alloc] at hol
    have HO := hid hol
    have HK1 := hid hk1
    clear hol hk1
    go_enter Try.func20, Try.ntmps20
    go_wp2_with (
      at_builtin
      refine EIn.law (.tmp 34) (.tmp 36) (.slice (some ⟨w.heap.size + 1, 0, none⟩) 0 0) B m d rfl rfl rfl rfl (w.heap.size + 1) 0 [] (l.map (Value.int .i64)) HO.out HLN.out HSR.out (ints_one l) (by omega) (by unfold maxLen; omega) (by simp) ?_
      intro A' c' w1 hown hg
      simp only [Nat.zero_add, List.nil_append] at hown
      have hk2 : Same (w.alloc (.cells #[.int .i64 4, .int .i64 n, .bool b, .string s, .slice B m d] 33)) w1 := HK1.out.app HO.out hg (fun g h1 h2 => by simp at h2; omega)
      have HOW := hid hown
      have HK2 := hid hk2
      clear hg hown hk2)
    have hS := HOW.out.sl (Av := fun i => i = wb ∨ some i = r) (fun g hg hs => by
      rcases hs with hs | hs
      · omega
      · have := HL.out g hs.symm; omega)
    refine (wInts_any w1 wb r A c bs (HW.out.same HK2.out) hn A' m c' l hS hm HE.out).mono ?_
    rintro e w2 ⟨r2, A2, c2, rfl, g1, g2, g3⟩
    go_wp2
    go_end0
    exact WPost.of (HK.out.then HK2.out) ⟨r2, A2, c2, rfl, g1, g2, g3⟩
end
end Go.Proofs.Ytohgclbgjdpggaa

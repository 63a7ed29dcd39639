import Derived.Test.YtbellndcgagclaaWireH
import Derived.Laws.BytesArg
namespace Go.Proofs.Ytbellndcgagclaa
open Go.RowKit

/-- What a reader's method leaves that returns a slice of its own. -/
def SPost (w : World) (rb : Nat) (Av : Nat → Prop) (t : TypeId) (s : RS) (cs : List Value) (e : Ending) (w' : World) : Prop :=
  ∃ A n c B, e = .returned (.slice B cs.length cs.length) ∧ Rd w' rb Av A n c s ∧ Keep (· = rb) w w' ∧ (0 < cs.length → ∃ g, B = some ⟨g, 0, none⟩ ∧ w.heap.size ≤ g ∧ Blk w' g t cs.toArray)
section
variable (w : World) (rb : Nat) (Av : Nat → Prop) (A : Option Addr) (n c : Nat)
set_option maxHeartbeats 2000000 in
theorem rBytes_any (s : RS) (h : Rd w rb Av A n c s) (hsz : s.rest.length ≤ 1000000000) :
    Calls Try.prog 45 #[.pointer (some ⟨rb, 0, none⟩)] w (SPost w rb Av 5 (rdBytes s).2 (bcells (rdBytes s).1)) := by
  have HI := hid (length_any w rb Av A n c s h hsz)
  have hl := rdMany_len s
  have hbad := @rdMany_bad s
  have hfit := @rdMany_fit s
  have hrbw := h.top.lt
  unfold rdBytes
  generalize rdMany s = q at *
  obtain ⟨v, l1, e1⟩ := q
  simp only at HI hl hbad hfit ⊢
  clear h
  by_cases hv : v = 0
  · subst hv
    have hres : Hid ((if ¬ e1 = 0 then (([] : List UInt8), (⟨l1, e1⟩ : RS)) else (List.take (Int.toNat 0) l1, ⟨List.drop (Int.toNat 0) l1, 0⟩)) = ([], ⟨l1, e1⟩)) := by
      by_cases he : e1 = 0
      · subst he; exact hid (by simp)
      · exact hid (by rw [if_pos he])
    rw [hres.out]
    clear hbad hfit hres
    go_enter Try.func45, Try.ntmps45
    go_wp2_with fail
    refine HI.out.mono ?_
    rintro e w2 ⟨A2, n2, c2, rfl, g1, g2⟩
    go_wp2
    go_ret
    exact ⟨A2, n2, c2, none, rfl, g1, g2, by simp [bcells]⟩
  · have he : e1 = 0 := by
      by_cases he : e1 = 0
      · exact he
      · exact absurd (hbad he) hv
    subst he
    obtain ⟨hv0, hv1⟩ := hfit rfl
    obtain ⟨k, rfl⟩ := Int.eq_ofNat_of_zero_le hv0
    have hk0 : 0 < k := by omega
    have hkl : k ≤ l1.length := by omega
    rw [if_neg (by simp)]
    simp only [Int.toNat_natCast]
    have hv' : ((k : Int) == 0) = false := by simp; omega
    clear hbad hfit hv hv0 hv1
    go_enter Try.func45, Try.ntmps45
    go_wp2_with fail
    refine HI.out.mono ?_
    rintro e w2 ⟨A2, n2, c2, rfl, g1, g2⟩
    have hln := g1.len
    simp only at hln
    have hcap := g1.cap
    have hmk := EBy.make .i64 .i64 (k : Int) (k : Int) (by omega) (by omega) (by omega) (by omega) w2
    simp only [Int.toNat_natCast, Nat.mul_one] at hmk
    have HC := hid (show (madeCells (Value.int .u8 0).cells k).size = k by simp [madeCells, Value.cells])
    have HB := hid (Blk.made w2 5 (madeCells (Value.int .u8 0).cells k))
    have hka : Same w2 (w2.alloc (.cells (madeCells (Value.int .u8 0).cells k) 5)) := (Keep.refl _ _).alloc _
    have hR3 := g1.same hka
    have c0 : (w2.alloc (.cells (madeCells (Value.int .u8 0).cells k) 5)).cell? ⟨rb, 0, none⟩ = some (.slice A2 n2 c2) := hR3.top.at_ 0
    have HR3 := hid hR3
    have HK3 := hid (g2.then hka)
    have hrb2 := g1.top.lt
    have hsz2 := g2.size
    have hkn2 : k ≤ n2 := by omega
    have hn2s : n2 ≤ 1000000000 := by omega
    obtain ⟨b2, off2, rfl, hb2, hav2, hr2⟩ := g1.sl.at_ (show 0 < n2 by omega)
    have HAV2 := hid hav2
    have HROW := hid hr2
    have HL1 := hid hln
    have HG1 := hid g1
    have HG2 := hid g2
    have HKA := hid hka
    clear g1 g2 hka hR3 hr2 hav2 hln
    generalize madeCells (Value.int .u8 0).cells k = cur at *
    go_wp2_with (with_reducible refine copy_all EBy (.tmp 11) (.tmp 15) w2.heap.size k k (some ⟨b2, off2, none⟩) n2 c2 rfl rfl rfl rfl cur HB.out HC.out _ (bcells l1) HR3.out.sl hkn2 (bcells_one _) ?_)
    intro w4 hB4 hK4
    have et : (bcells l1).take k = bcells (l1.take k) := by simp [bcells, List.map_take]
    rw [et] at hB4
    have hk24 : Same w2 w4 := HKA.out.trans hK4 (fun i hi e => by omega)
    have hR4 := HG1.out.same hk24
    have c4 : w4.cell? ⟨rb, 0, none⟩ = some (.slice (some ⟨b2, off2, none⟩) n2 c2) := hR4.top.at_ 0
    have f4 : w4.frozen? ⟨rb, 0, none⟩ = false := hR4.top.free 0
    have hrb4 := hR4.top.lt
    have HR4 := hid hR4
    have HB4 := hid hB4
    have HK4 := hid (HG2.out.then hk24)
    have HRO4 := hid (HROW.out.keep hk24 hb2 (fun f => f))
    have hfin : ∀ (A' : Option Addr) (c' : Nat), (k < n2 → A' = some ⟨b2, off2 + k, none⟩) → n2 - k ≤ c' → SPost w rb Av 5 ⟨l1.drop k, 0⟩ (bcells (l1.take k)) (.returned (.slice (some ⟨w2.heap.size, 0, none⟩) k k)) (w4.setCell ⟨rb, 0, none⟩ (.slice A' (n2 - k) c')) := by
      intro A' c' hA hc
      have hk : Keep (· = rb) w4 (w4.setCell ⟨rb, 0, none⟩ (.slice A' (n2 - k) c')) := (Keep.refl _ w4).put _ _
      have hkl2 : (bcells (l1.take k)).length = k := by rw [bcells_len, List.length_take]; omega
      refine ⟨A', n2 - k, c', some ⟨w2.heap.size, 0, none⟩, by rw [hkl2], ⟨?_, ?_, hc, HR4.out.av⟩, HK4.out.trans hk (fun _ _ h => h), fun _ => ⟨w2.heap.size, rfl, hsz2, ?_⟩⟩
      · have := HR4.out.top.put 0 (.slice A' (n2 - k) c')
        simpa using this
      · refine ⟨by rw [bcells_len, List.length_drop, HL1.out]; omega, fun h0 => ⟨b2, off2 + k, hA (by omega), ?_, HAV2.out, ?_⟩⟩
        · have := hk24.size; simp; omega
        · have hd := HRO4.out.drop k
          have : (bcells l1).drop k = bcells (l1.drop k) := by simp [bcells, List.map_drop]
          rw [this] at hd
          exact hd.keep hk (Nat.lt_of_lt_of_le hb2 hk24.size) (fun e => HAV2.out (.inr e))
      · exact HB4.out.far (p := ⟨rb, 0, none⟩) (by simp; omega) _
    have HF := hid hfin
    clear hB4 hK4 hR4 hfin hk24 et c0
    by_cases hc : c2 = k
    · subst hc
      obtain rfl : n2 = c2 := by omega
      go_wp2
      go_ret
      have := HF.out (some ⟨b2, off2, none⟩) 0 (by omega) (by omega)
      simpa using this
    · have hc' : ¬ (c2 : Int) = k := by omega
      go_wp2
      go_ret
      exact HF.out _ _ (fun _ => rfl) (by omega)
end

/-- the string of bytes -/
def strOf (l : List UInt8) : ByteArray := ⟨l.toArray⟩
theorem strOf_size (l : List UInt8) : (strOf l).size = l.length := by simp [strOf, ByteArray.size]
theorem strOf_list (l : List UInt8) : (strOf l).data.toList = l := by simp [strOf]
theorem strOf_data (s : ByteArray) : strOf s.data.toList = s := by cases s; simp [strOf]
theorem conv_str (w : World) (Av : Nat → Prop) (B : Option Addr) (n c : Nat) (l : List UInt8) (h : Sl w Av 1 B n (bcells l)) : (convert 44 9 (.slice B n c)).run Try.prog w = .ok (.string (strOf l)) w := by
  have hl : l.length = n := by have := h.len; simpa [bcells] using this
  rw [run_convert_bytes_string w _ _ _ B n c Try.underlying44 Try.underlying5 u_str]
  rcases B with _ | a
  · have h0 : n = 0 := by
      rcases Nat.eq_zero_or_pos n with h0 | h0
      · exact h0
      · obtain ⟨b, off, e, _⟩ := h.at_ h0; cases e
    subst h0
    obtain rfl : l = [] := List.eq_nil_of_length_eq_zero hl
    simp [Conv.bytesToString, strOf]
    rfl
  · have hld : (loadCells a n).run Try.prog w = .ok ((l.map fun b => (b.toNat : Int)).map (Value.int .u8)).toArray w := by
      have hh := run_loadCells_list (P := Try.prog) w a ((l.map fun b => (b.toNat : Int)).map (Value.int .u8)) (fun j u hu => by
        have hj := (List.getElem?_eq_some_iff.1 hu).1
        obtain ⟨b, off, e, _, _, hr⟩ := h.at_ (by simp at hj; omega)
        injection e with e
        rw [e, add_blk]
        exact hr j u (by simpa [bcells, bv, Function.comp_def] using hu))
      simpa [hl] using hh
    rw [run_bytesToString w a n c _ hld, foldl_push_bytes]
    congr 2
    have hm : List.map ((fun n : Int => UInt8.ofNat n.toNat) ∘ fun b : UInt8 => (b.toNat : Int)) l = l := by simp [Function.comp_def]
    simp [strOf, ByteArray.empty, ByteArray.emptyWithCapacity, hm]
    rfl

section
variable (w : World) (rb : Nat) (Av : Nat → Prop) (A : Option Addr) (n c : Nat)
theorem made_zeros (z : Value) (n : Nat) : madeCells #[z] n = (List.replicate n z).toArray := by
  apply Array.ext
  · simp [madeCells]
  · intro i h1 h2
    have : i % 1 = 0 := Nat.mod_one i
    simp [madeCells, this]
end
end Go.Proofs.Ytbellndcgagclaa

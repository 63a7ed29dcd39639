import Derived.Test.YtkkenfgpmoediaaWireH
import Derived.Laws.BytesArg
namespace Go.Proofs.Ytkkenfgpmoediaa
open Go.RowKit

/-- What a reader's method leaves that returns a slice of its own. -/
def SPost (w : World) (rb : Nat) (Av : Nat → Prop) (t : TypeId) (s : RS) (cs : List Value) (e : Ending) (w' : World) : Prop :=
  ∃ A n c B, e = .returned (.slice B cs.length cs.length) ∧ Rd w' rb Av A n c s ∧ Keep (· = rb) w w' ∧ (0 < cs.length → ∃ g, B = some ⟨g, 0, none⟩ ∧ w.heap.size ≤ g ∧ Blk w' g t cs.toArray)
theorem EIn : Elem Try.prog 29 3 1 8 (.int .i64 0) := ⟨Try.underlying29, by kernel_rfl, rfl, by decide⟩

section
variable (w : World) (rb : Nat) (Av : Nat → Prop) (A : Option Addr) (n c : Nat)
set_option maxHeartbeats 2000000 in
theorem rBytes_any (s : RS) (h : Rd w rb Av A n c s) (hsz : s.rest.length ≤ 1000000000) :
    Calls Try.prog 47 #[.pointer (some ⟨rb, 0, none⟩)] w (SPost w rb Av 5 (rdBytes s).2 (bcells (rdBytes s).1)) := by
  have HI := hid (length_any w rb Av A n c s h hsz)
  have hl := rdMany_len s
  have hbad := @rdMany_bad s
  have hfit := @rdMany_fit s
  have hrbw := h.top.lt
  unfold rdBytes
  generalize rdMany s = q at *
  obtain ⟨v, l1, e1⟩ := q
  simp only at HI hl hbad hfit ⊢
  clear h
  by_cases hv : v = 0
  · subst hv
    have hres : Hid ((if ¬ e1 = 0 then (([] : List UInt8), (⟨l1, e1⟩ : RS)) else (List.take (Int.toNat 0) l1, ⟨List.drop (Int.toNat 0) l1, 0⟩)) = ([], ⟨l1, e1⟩)) := by
      by_cases he : e1 = 0
      · subst he; exact hid (by simp)
      · exact hid (by rw [if_pos he])
    rw [hres.out]
    clear hbad hfit hres
    go_enter Try.func47, Try.ntmps47
    go_wp2_with fail
    refine HI.out.mono ?_
    rintro e w2 ⟨A2, n2, c2, rfl, g1, g2⟩
    go_wp2
    go_ret
    exact ⟨A2, n2, c2, none, rfl, g1, g2, by simp [bcells]⟩
  · have he : e1 = 0 := by
      by_cases he : e1 = 0
      · exact he
      · exact absurd (hbad he) hv
    subst he
    obtain ⟨hv0, hv1⟩ := hfit rfl
    obtain ⟨k, rfl⟩ := Int.eq_ofNat_of_zero_le hv0
    have hk0 : 0 < k := by omega
    have hkl : k ≤ l1.length := by omega
    rw [if_neg (by simp)]
    simp only [Int.toNat_natCast]
    have hv' : ((k : Int) == 0) = false := by simp; omega
    clear hbad hfit hv hv0 hv1
    go_enter Try.func47, Try.ntmps47
    go_wp2_with fail
    refine HI.out.mono ?_
    rintro e w2 ⟨A2, n2, c2, rfl, g1, g2⟩
    have hln := g1.len
    simp only at hln
    have hcap := g1.cap
    have hmk := EBy.make .i64 .i64 (k : Int) (k : Int) (by omega) (by omega) (by omega) (by omega) w2
    simp only [Int.toNat_natCast, Nat.mul_one] at hmk
    have HC := hid (show (madeCells (Value.int .u8 0).cells k).size = k by simp [madeCells, Value.cells])
    have HB := hid (Blk.made w2 5 (madeCells (Value.int .u8 0).cells k))
    have hka : Same w2 (w2.alloc (.cells (madeCells (Value.int .u8 0).cells k) 5)) := (Keep.refl _ _).alloc _
    have hR3 := g1.same hka
    have c0 : (w2.alloc (.cells (madeCells (Value.int .u8 0).cells k) 5)).cell? ⟨rb, 0, none⟩ = some (.slice A2 n2 c2) := hR3.top.at_ 0
    have HR3 := hid hR3
    have HK3 := hid (g2.then hka)
    have hrb2 := g1.top.lt
    have hsz2 := g2.size
    have hkn2 : k ≤ n2 := by omega
    have hn2s : n2 ≤ 1000000000 := by omega
    obtain ⟨b2, off2, rfl, hb2, hav2, hr2⟩ := g1.sl.at_ (show 0 < n2 by omega)
    have HAV2 := hid hav2
    have HROW := hid hr2
    have HL1 := hid hln
    have HG1 := hid g1
    have HG2 := hid g2
    have HKA := hid hka
    clear g1 g2 hka hR3 hr2 hav2 hln
    generalize madeCells (Value.int .u8 0).cells k = cur at *
    go_wp2_with (with_reducible refine copy_all EBy (.tmp 11) (.tmp 15) w2.heap.size k k (some ⟨b2, off2, none⟩) n2 c2 rfl rfl rfl rfl cur HB.out HC.out _ (bcells l1) HR3.out.sl hkn2 (bcells_one _) ?_)
    intro w4 hB4 hK4
    have et : (bcells l1).take k = bcells (l1.take k) := by simp [bcells, List.map_take]
    rw [et] at hB4
    have hk24 : Same w2 w4 := HKA.out.trans hK4 (fun i hi e => by omega)
    have hR4 := HG1.out.same hk24
    have c4 : w4.cell? ⟨rb, 0, none⟩ = some (.slice (some ⟨b2, off2, none⟩) n2 c2) := hR4.top.at_ 0
    have f4 : w4.frozen? ⟨rb, 0, none⟩ = false := hR4.top.free 0
    have hrb4 := hR4.top.lt
    have HR4 := hid hR4
    have HB4 := hid hB4
    have HK4 := hid (HG2.out.then hk24)
    have HRO4 := hid (HROW.out.keep hk24 hb2 (fun f => f))
    have hfin : ∀ (A' : Option Addr) (c' : Nat), (k < n2 → A' = some ⟨b2, off2 + k, none⟩) → n2 - k ≤ c' → SPost w rb Av 5 ⟨l1.drop k, 0⟩ (bcells (l1.take k)) (.returned (.slice (some ⟨w2.heap.size, 0, none⟩) k k)) (w4.setCell ⟨rb, 0, none⟩ (.slice A' (n2 - k) c')) := by
      intro A' c' hA hc
      have hk : Keep (· = rb) w4 (w4.setCell ⟨rb, 0, none⟩ (.slice A' (n2 - k) c')) := (Keep.refl _ w4).put _ _
      have hkl2 : (bcells (l1.take k)).length = k := by rw [bcells_len, List.length_take]; omega
      refine ⟨A', n2 - k, c', some ⟨w2.heap.size, 0, none⟩, by rw [hkl2], ⟨?_, ?_, hc, HR4.out.av⟩, HK4.out.trans hk (fun _ _ h => h), fun _ => ⟨w2.heap.size, rfl, hsz2, ?_⟩⟩
      · have := HR4.out.top.put 0 (.slice A' (n2 - k) c')
        simpa using this
      · refine ⟨by rw [bcells_len, List.length_drop, HL1.out]; omega, fun h0 => ⟨b2, off2 + k, hA (by omega), ?_, HAV2.out, ?_⟩⟩
        · have := hk24.size; simp; omega
        · have hd := HRO4.out.drop k
          have : (bcells l1).drop k = bcells (l1.drop k) := by simp [bcells, List.map_drop]
          rw [this] at hd
          exact hd.keep hk (Nat.lt_of_lt_of_le hb2 hk24.size) (fun e => HAV2.out (.inr e))
      · exact HB4.out.far (p := ⟨rb, 0, none⟩) (by simp; omega) _
    have HF := hid hfin
    clear hB4 hK4 hR4 hfin hk24 et c0
    by_cases hc : c2 = k
    · subst hc
      obtain rfl : n2 = c2 := by omega
      go_wp2
      go_ret
      have := HF.out (some ⟨b2, off2, none⟩) 0 (by omega) (by omega)
      simpa using this
    · have hc' : ¬ (c2 : Int) = k := by omega
      go_wp2
      go_ret
      exact HF.out _ _ (fun _ => rfl) (by omega)
end

/-- the string of bytes -/
def strOf (l : List UInt8) : ByteArray := ⟨l.toArray⟩
theorem strOf_size (l : List UInt8) : (strOf l).size = l.length := by simp [strOf, ByteArray.size]
theorem strOf_list (l : List UInt8) : (strOf l).data.toList = l := by simp [strOf]
theorem strOf_data (s : ByteArray) : strOf s.data.toList = s := by cases s; simp [strOf]
theorem conv_str (w : World) (Av : Nat → Prop) (B : Option Addr) (n c : Nat) (l : List UInt8) (h : Sl w Av 1 B n (bcells l)) : (convert 39 9 (.slice B n c)).run Try.prog w = .ok (.string (strOf l)) w := by
  have hl : l.length = n := by have := h.len; simpa [bcells] using this
  rw [run_convert_bytes_string w _ _ _ B n c Try.underlying39 Try.underlying5 u_str]
  rcases B with _ | a
  · have h0 : n = 0 := by
      rcases Nat.eq_zero_or_pos n with h0 | h0
      · exact h0
      · obtain ⟨b, off, e, _⟩ := h.at_ h0; cases e
    subst h0
    obtain rfl : l = [] := List.eq_nil_of_length_eq_zero hl
    simp [Conv.bytesToString, strOf]
    rfl
  · have hld : (loadCells a n).run Try.prog w = .ok ((l.map fun b => (b.toNat : Int)).map (Value.int .u8)).toArray w := by
      have hh := run_loadCells_list (P := Try.prog) w a ((l.map fun b => (b.toNat : Int)).map (Value.int .u8)) (fun j u hu => by
        have hj := (List.getElem?_eq_some_iff.1 hu).1
        obtain ⟨b, off, e, _, _, hr⟩ := h.at_ (by simp at hj; omega)
        injection e with e
        rw [e, add_blk]
        exact hr j u (by simpa [bcells, bv, Function.comp_def] using hu))
      simpa [hl] using hh
    rw [run_bytesToString w a n c _ hld, foldl_push_bytes]
    congr 2
    have hm : List.map ((fun n : Int => UInt8.ofNat n.toNat) ∘ fun b : UInt8 => (b.toNat : Int)) l = l := by simp [Function.comp_def]
    simp [strOf, ByteArray.empty, ByteArray.emptyWithCapacity, hm]
    rfl

section
variable (w : World) (rb : Nat) (Av : Nat → Prop) (A : Option Addr) (n c : Nat)
set_option maxHeartbeats 2000000 in
theorem rString_any (s : RS) (h : Rd w rb Av A n c s) (hsz : s.rest.length ≤ 1000000000) :
    Calls Try.prog 41 #[.pointer (some ⟨rb, 0, none⟩)] w (RPost w rb Av (rdBytes s).2 (.string (strOf (rdBytes s).1))) := by
  have HI := hid (rBytes_any w rb Av A n c s h hsz)
  generalize rdBytes s = q at *
  obtain ⟨l, s1⟩ := q
  clear h
  simp only at HI ⊢
  go_enter Try.func41, Try.ntmps41
  go_wp2_with fail
  refine HI.out.mono ?_
  rintro e w2 ⟨A2, n2, c2, B, rfl, g1, g2, g3⟩
  have hcv := conv_str w2 (fun _ => False) B (bcells l).length (bcells l).length l ⟨by simp, fun h0 => by
    obtain ⟨g, hB, _, hb⟩ := g3 h0
    exact ⟨g, 0, hB, hb.lt, fun f => f, Row.of_blk hb⟩⟩
  have HG := hid (And.intro g1 g2)
  clear g1 g2 g3 HI
  generalize (bcells l).length = m at *
  go_wp2
  go_ret
  exact ⟨A2, n2, c2, rfl, HG.out.1, HG.out.2⟩

/-- a round of Ints: k are read -/
def RIs (w : World) (rb : Nat) (Av : Nat → Prop) (g m : Nat) (fin : List Int × RS) (k : Nat) (wr : World) : Prop :=
  ∃ (xs : List Int) (s : RS) (A : Option Addr) (n c : Nat), xs.length = k ∧ s.err = 0 ∧ s.rest.length ≤ 1000000000 ∧ rdL (m - k) xs s = fin ∧ Rd wr rb (fun i => Av i ∨ i = g) A n c s ∧ Keep (· = rb) w wr ∧
    Blk wr g 3 ((xs ++ List.replicate (m - k) 0).map (Value.int .i64)).toArray
theorem made_zeros (z : Value) (n : Nat) : madeCells #[z] n = (List.replicate n z).toArray := by
  apply Array.ext
  · simp [madeCells]
  · intro i h1 h2
    have : i % 1 = 0 := Nat.mod_one i
    simp [madeCells, this]
set_option maxHeartbeats 4000000 in
theorem rInts_any (s : RS) (h : Rd w rb Av A n c s) (hsz : s.rest.length ≤ 1000000000) :
    Calls Try.prog 42 #[.pointer (some ⟨rb, 0, none⟩)] w (SPost w rb Av 3 (rdInts s).2 ((rdInts s).1.map (Value.int .i64))) := by
  have HI := hid (length_any w rb Av A n c s h hsz)
  have hl := rdMany_len s
  have hbad := @rdMany_bad s
  have hfit := @rdMany_fit s
  have hrbw := h.top.lt
  unfold rdInts
  generalize rdMany s = q at *
  obtain ⟨v, l1, e1⟩ := q
  simp only at HI hl hbad hfit ⊢
  clear h
  by_cases hv : v = 0
  · subst hv
    rw [show rdL (Int.toNat 0) [] ⟨l1, e1⟩ = ([], ⟨l1, e1⟩) from rfl]
    clear hbad hfit
    go_enter Try.func42, Try.ntmps42
    go_wp2_with fail
    refine HI.out.mono ?_
    rintro e w2 ⟨A2, n2, c2, rfl, g1, g2⟩
    go_wp2
    go_ret
    exact ⟨A2, n2, c2, none, rfl, g1, g2, by simp⟩
  · have he : e1 = 0 := by
      by_cases he : e1 = 0
      · exact he
      · exact absurd (hbad he) hv
    subst he
    obtain ⟨hv0, hv1⟩ := hfit rfl
    obtain ⟨m, rfl⟩ := Int.eq_ofNat_of_zero_le hv0
    have hk0 : 0 < m := by omega
    have hkl : m ≤ 1000000000 := by omega
    have hl1 : l1.length ≤ 1000000000 := by omega
    simp only [Int.toNat_natCast]
    have hv' : ((m : Int) == 0) = false := by simp; omega
    obtain ⟨fin, hfin⟩ : ∃ fin, rdL m [] ⟨l1, 0⟩ = fin := ⟨_, rfl⟩
    rw [hfin]
    have HFIN := hid hfin
    clear hbad hfit hv hv0 hv1 hfin hl
    go_enter Try.func42, Try.ntmps42
    go_wp2_with fail
    refine HI.out.mono ?_
    rintro e w2 ⟨A2, n2, c2, rfl, g1, g2⟩
    have hmk := EIn.make .i64 .i64 (m : Int) (m : Int) (by omega) (by omega) (by omega) (by omega) w2
    simp only [Int.toNat_natCast, Nat.mul_one, show (Value.int IntKind.i64 0).cells = #[Value.int .i64 0] from rfl, made_zeros] at hmk
    have hB := Blk.made w2 3 (List.replicate m (Value.int .i64 0)).toArray
    have hka : Same w2 (w2.alloc (.cells (List.replicate m (Value.int .i64 0)).toArray 3)) := (Keep.refl _ _).alloc _
    have HR0 : Hid (RIs w rb Av w2.heap.size m fin 0 (w2.alloc (.cells (List.replicate m (Value.int .i64 0)).toArray 3))) :=
      hid ⟨[], ⟨l1, 0⟩, A2, n2, c2, rfl, rfl, hl1, HFIN.out, (g1.wide (Av' := fun i => Av i ∨ i = w2.heap.size) (fun i hi hs => by rcases hs with hs | hs; exact hs; omega)).same hka, g2.then hka, by simpa using hB⟩
    have hrb2 := g1.top.lt
    have hsz2 := g2.size
    clear g1 g2 hB hka HFIN HI
    generalize (List.replicate m (Value.int .i64 0)).toArray = cur at *
    generalize hg : w2.heap.size = g at *
    have hgrb : ¬ g = rb := by omega
    have Hg := hid hg
    clear hg
    go_wp2
    go_loopw [14] (fun i wr => ∃ k : Nat, k ≤ m ∧ i = .int .i64 k ∧ RIs w rb Av g m fin k wr) (fun i _ => m - (RowKit.intOf i).toNat)
    case atStart => exact ⟨0, by omega, rfl, HR0.out⟩
    case round =>
      obtain ⟨k, hkm, rfl, xs, s1, A3, n3, c3, hxl, hse, hsl, hrd, hR, hK, hB⟩ := hrel
      have HXL := hid hxl
      have HSE := hid hse
      have HRD := hid hrd
      have HR := hid hR
      have HK := hid hK
      have HB := hid hB
      clear hxl hse hrd hR hK hB
      by_cases hlt : k < m
      · have HC := hid (rInt_any wr rb (fun i => Av i ∨ i = g) A3 n3 c3 s1 HR.out)
        have hle := rdInt_len s1
        have hmk1 : m - k = (m - (k + 1)) + 1 := by omega
        have hrd := HRD.out
        rw [hmk1, rdL] at hrd
        have HRD2 := hid hrd
        have HMK := hid hmk1
        clear hrd hmk1
        go_wp2_with fail
        refine HC.out.mono ?_
        rintro e w4 ⟨A4, n4, c4, rfl, h4, hk4⟩
        have hB4 := HB.out.keep hk4 hgrb
        have f4 := hB4.free k
        have q4 : w4.cell? ⟨g, k, none⟩ = some (.int .i64 0) := by
          rw [hB4.at_ k]
          simp [HXL.out, HMK.out]
        have b4 := hB4.lt
        have e4 := h4.top.at_ 1
        have r4 := h4.top.lt
        have HB4 := hid hB4
        have H4 := hid h4
        have HK4 := hid (HK.out.trans hk4 (fun _ _ h => h))
        clear hB4 h4 hk4 HC HB HR HK
        generalize rdInt s1 = q at *
        obtain ⟨v1, l2, er⟩ := q
        simp only at hle e4 H4 HRD2 ⊢
        have hgw : w.heap.size ≤ g := by have := Hg.out; omega
        have hput : ∀ u, Keep (· = g) w4 (w4.setCell ⟨g, k, none⟩ u) := fun u => (Keep.refl _ w4).put _ _
        have HPUT := hid hput
        clear hput
        have HR5 : Hid (∀ u, Rd (w4.setCell ⟨g, k, none⟩ u) rb (fun i => Av i ∨ i = g) A4 n4 c4 ⟨l2, er⟩ ∧ Keep (· = rb) w (w4.setCell ⟨g, k, none⟩ u)) := hid (fun u =>
          ⟨H4.out.keep (HPUT.out u) (fun i _ e => .inr e), HK4.out.trans (HPUT.out u) (fun i hi e => by omega)⟩)
        by_cases he : er = 0
        · subst he
          have hr := HRD2.out
          rw [if_pos rfl] at hr
          have HR6 := hid hr
          clear hr HRD2
          go_wp2
          go_roundw
          case rel =>
            obtain ⟨r5, k5⟩ := HR5.out (.int .i64 v1)
            refine ⟨k + 1, by omega, by go_num, xs ++ [v1], ⟨l2, 0⟩, A4, n4, c4, by simp [HXL.out], rfl, by simp only; omega, HR6.out, r5, k5, ?_⟩
            have hb := HB4.out.put k (.int .i64 v1)
            rw [List.setIfInBounds_toArray] at hb
            have e : ((xs ++ List.replicate (m - k) 0).map (Value.int .i64)).set k (.int .i64 v1) = ((xs ++ [v1] ++ List.replicate (m - (k + 1)) 0).map (Value.int .i64)) := by
              rw [HMK.out, List.replicate_succ, List.map_append, List.set_append_right _ _ (by simp [HXL.out])]
              simp [HXL.out]
            rwa [e] at hb
          case measure => simp [RowKit.intOf]; omega
        · have he' : (er != 0) = true := by simpa using he
          have hr := HRD2.out
          rw [if_neg he] at hr
          have HR6 := hid hr.symm
          clear hr HRD2 he
          go_wp2
          go_ret
          obtain ⟨r5, k5⟩ := HR5.out (.int .i64 v1)
          rw [HR6.out]
          exact ⟨A4, n4, c4, none, rfl, r5.wide (fun _ _ h => .inl h), k5, by simp⟩
      · obtain rfl : k = m := by omega
        have hrd := HRD.out
        rw [Nat.sub_self] at hrd
        have HRD2 := hid hrd.symm
        have hb := HB.out
        rw [Nat.sub_self, List.replicate_zero, List.append_nil] at hb
        have HB2 := hid hb
        have Hgw := Hg.out
        clear hrd hb HRD HB
        go_wp2
        go_ret
        rw [HRD2.out]
        have hlen : ((rdL 0 xs s1).1.map (Value.int .i64)).length = k := by simp [rdL, HXL.out]
        exact ⟨A3, n3, c3, some ⟨g, 0, none⟩, by rw [hlen]; rfl, HR.out.wide (fun _ _ h => .inl h), HK.out, fun _ => ⟨g, rfl, by omega, HB2.out⟩⟩
end
end Go.Proofs.Ytkkenfgpmoediaa

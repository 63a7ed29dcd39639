import Derived.Test.YtffodheoamlhjaaExcl
namespace Go.Proofs.Ytffodheoamlhjaa
open Go.RowKit

/-- The blocks of LeaseExclusive: the box of the first participant, the array of the states, the list of both. -/
structure XI (w wr : World) (SB : Nat) (ka T kb Tb : Int) (v0 v1 : Value) : Prop where
  box : Blk wr w.heap.size 45 #[.int .u8 ka, .int .i64 T]
  st : Blk wr SB 48 #[v0, v1]
  lst : Blk wr (SB + 1) 45 #[.int .u8 ka, .int .i64 T, .int .u8 kb, .int .i64 Tb]
  keep : Same w wr
  lo : w.heap.size < SB
theorem XI.step {w w1 w2 : World} {SB sb : Nat} {ka T kb Tb : Int} {v0 v1 : Value} (h : XI w w1 SB ka T kb Tb v0 v1) (hk : Keep (· = sb) w1 w2) (hs : SB + 1 < sb) : XI w w2 SB ka T kb Tb v0 v1 :=
  ⟨h.box.keep hk (by have := h.lo; omega), h.st.keep hk (by omega), h.lst.keep hk (by omega), h.keep.trans hk (fun i hi e => by have := h.lo; omega), h.lo⟩
theorem XI.same {w w1 w2 : World} {SB : Nat} {ka T kb Tb : Int} {v0 v1 : Value} (h : XI w w1 SB ka T kb Tb v0 v1) (hk : Same w1 w2) : XI w w2 SB ka T kb Tb v0 v1 :=
  ⟨h.box.keep hk (fun f => f), h.st.keep hk (fun f => f), h.lst.keep hk (fun f => f), h.keep.then hk, h.lo⟩

def L0 : List St := [0, 1, 2].map (mkSt 10)
/-- A table behind the first j operations, all of them at T at the latest. -/
structure TT (w : World) (SB tb sb : Nat) (ops : List Ac) (T : Int) (j : Nat) : Prop where
  tab : IsTable w tb sb (acts L0 (ops.take j))
  ok : ∀ a ∈ ops.take j, a.n ≤ T
  t : SB + 1 < tb
  s : SB + 1 < sb
theorem TT.step {w1 w2 : World} {SB tb sb s2 : Nat} {ops : List Ac} {T : Int} {j : Nat} (h : TT w1 SB tb sb ops T j) (hk : Keep (· = s2) w1 w2) (h1 : tb ≠ s2) (h2 : sb ≠ s2) : TT w2 SB tb sb ops T j :=
  ⟨h.tab.keep hk h1 h2, h.ok, h.t, h.s⟩
theorem TT.same {w1 w2 : World} {SB tb sb : Nat} {ops : List Ac} {T : Int} {j : Nat} (h : TT w1 SB tb sb ops T j) (hk : Same w1 w2) : TT w2 SB tb sb ops T j :=
  ⟨h.tab.keep hk (fun f => f) (fun f => f), h.ok, h.t, h.s⟩

/-- behind k of the two participants -/
def XR (w wr : World) (SB : Nat) (ka T kb Tb : Int) (ops : List Ac) (k : Nat) : Prop :=
  (k = 0 ∧ XI w wr SB ka T kb Tb (.pointer none) (.pointer none)) ∨
  (k = 1 ∧ ∃ tb sb j, XI w wr SB ka T kb Tb (.pointer (some ⟨tb, 0, none⟩)) (.pointer none) ∧ TT wr SB tb sb ops T j) ∨
  (k = 2 ∧ ∃ tb sb j tb' sb' j', XI w wr SB ka T kb Tb (.pointer (some ⟨tb, 0, none⟩)) (.pointer (some ⟨tb', 0, none⟩)) ∧ TT wr SB tb sb ops T j ∧ TT wr SB tb' sb' ops T j')

/-- the older table, where there is one -/
def XH (w : World) (SB : Nat) (ops : List Ac) (T : Int) (k : Nat) (v0 v1 : Value) : Prop :=
  k = 0 ∧ v1 = .pointer none ∨ k = 1 ∧ ∃ tb sb j, v0 = .pointer (some ⟨tb, 0, none⟩) ∧ v1 = .pointer none ∧ TT w SB tb sb ops T j
theorem XH.same {w1 w2 : World} {SB : Nat} {ops : List Ac} {T : Int} {k : Nat} {v0 v1 : Value} (h : XH w1 SB ops T k v0 v1) (hk : Same w1 w2) : XH w2 SB ops T k v0 v1 := by
  rcases h with h | ⟨rfl, tb, sb, j, h1, h2, h3⟩
  · exact .inl h
  · exact .inr ⟨rfl, tb, sb, j, h1, h2, h3.same hk⟩
theorem XH.step {w0 w1 w2 : World} {SB s2 : Nat} {ops : List Ac} {T : Int} {k : Nat} {v0 v1 : Value} (h : XH w0 SB ops T k v0 v1) (h0 : Same w0 w1) (hs : w0.heap.size ≤ s2) (hk : Keep (· = s2) w1 w2) : XH w2 SB ops T k v0 v1 := by
  rcases h with h | ⟨rfl, tb, sb, j, h1, h2, h3⟩
  · exact .inl h
  · have a := h3.tab.top.lt
    have b := h3.tab.row.lt
    exact .inr ⟨rfl, tb, sb, j, h1, h2, (h3.same h0).step hk (by omega) (by omega)⟩
/-- what a round of the two finds -/
theorem XR.open {w wr : World} {SB : Nat} {ka T kb Tb : Int} {ops : List Ac} {k : Nat} (h : XR w wr SB ka T kb Tb ops k) (hk : k < 2) (a0 : 0 ≤ ka) (a1 : ka ≤ 255) (b0 : 0 ≤ kb) (b1 : kb ≤ 255) :
    ∃ (K T' : Int) (v0 v1 : Value), 0 ≤ K ∧ K ≤ 255 ∧ XI w wr SB ka T kb Tb v0 v1 ∧ wr.cell? ⟨SB + 1, k * 2, none⟩ = some (.int .u8 K) ∧ wr.cell? ⟨SB + 1, k * 2 + 1, none⟩ = some (.int .i64 T') ∧
      XH wr SB ops T k v0 v1 := by
  rcases h with ⟨rfl, h⟩ | ⟨rfl, tb, sb, j, h, ht⟩ | ⟨rfl, _⟩
  · exact ⟨ka, T, _, _, a0, a1, h, h.lst.at_ 0, h.lst.at_ 1, .inl ⟨rfl, rfl⟩⟩
  · exact ⟨kb, Tb, _, _, b0, b1, h, h.lst.at_ 2, h.lst.at_ 3, .inr ⟨rfl, tb, sb, j, rfl, rfl, ht⟩⟩
  · omega
theorem XI.far {w w5 : World} {SB k : Nat} {ka T kb Tb : Int} {v0 v1 u : Value} (h : XI w w5 SB ka T kb Tb v0 v1) (hk : k < 2) : XI w (w5.setCell ⟨SB, k, none⟩ u) SB ka T kb Tb (if k = 0 then u else v0) (if k = 0 then v1 else u) := by
  have hl := h.lo
  refine ⟨h.box.far (p := ⟨SB, k, none⟩) (by simp; omega) u, ?_, h.lst.far (p := ⟨SB, k, none⟩) (by simp) u, ?_, h.lo⟩
  · have := h.st.put k u
    have hk' : k = 0 ∨ k = 1 := by omega
    rcases hk' with rfl | rfl <;> exact this
  · exact h.keep.trans ((Keep.refl (· = SB) _).put _ _) (fun i hi e => by omega)
theorem TT.far {w5 : World} {SB k tb sb : Nat} {ops : List Ac} {T : Int} {j : Nat} {u : Value} (h : TT w5 SB tb sb ops T j) : TT (w5.setCell ⟨SB, k, none⟩ u) SB tb sb ops T j := by
  have a := h.t
  have b := h.s
  exact h.step ((Keep.refl (· = SB) _).put _ _) (by omega) (by omega)
theorem XR.next {w w5 : World} {SB k tb sb j : Nat} {ka T kb Tb : Int} {ops : List Ac} {v0 v1 : Value} (hX : XI w w5 SB ka T kb Tb v0 v1) (hH : XH w5 SB ops T k v0 v1) (hT : TT w5 SB tb sb ops T j) (hk : k < 2) :
    XR w (w5.setCell ⟨SB, k, none⟩ (.pointer (some ⟨tb, 0, none⟩))) SB ka T kb Tb ops (k + 1) := by
  have h1 := hX.far (u := .pointer (some ⟨tb, 0, none⟩)) hk
  rcases hH with ⟨rfl, rfl⟩ | ⟨rfl, tb0, sb0, j0, rfl, rfl, h0⟩
  · exact .inr (.inl ⟨rfl, tb, sb, j, h1, hT.far⟩)
  · exact .inr (.inr ⟨rfl, tb0, sb0, j0, tb, sb, j, h1, h0.far, hT.far⟩)
theorem XR.same {w w1 w2 : World} {SB k : Nat} {ka T kb Tb : Int} {ops : List Ac} (h : XR w w1 SB ka T kb Tb ops k) (hk : Same w1 w2) : XR w w2 SB ka T kb Tb ops k := by
  rcases h with ⟨h0, h⟩ | ⟨h0, tb, sb, j, h, ht⟩ | ⟨h0, tb, sb, j, tb', sb', j', h, ht, ht'⟩
  · exact .inl ⟨h0, h.same hk⟩
  · exact .inr (.inl ⟨h0, tb, sb, j, h.same hk, ht.same hk⟩)
  · exact .inr (.inr ⟨h0, tb, sb, j, tb', sb', j', h.same hk, ht.same hk, ht'.same hk⟩)
/-- all operations by T -/
def ByT (T : Int) (l : List Ac) : Prop := ∀ a ∈ l, a.n ≤ T
theorem ByT.snoc {T : Int} {ops : List Ac} {k : Nat} {a : Ac} (h : ByT T (ops.take k)) (ha : ops[k]? = some a) (hn : a.n ≤ T) : ByT T (ops.take (k + 1)) := by
  rw [take_snoc ha]
  intro b hb
  rcases List.mem_append.1 hb with hb | hb
  · exact h b hb
  · simp at hb; subst hb; exact hn

set_option maxRecDepth 100000 in
set_option maxHeartbeats 8000000 in
theorem leaseExclusive_walk (w : World) (B : Option Addr) (m d : Nat) (ops : List Ac) (hB : Sl w (fun _ => False) 6 B m (acFlat ops)) (hmd : m ≤ d) (ka T kb Tb : Int) (a0 : 0 ≤ ka) (a1 : ka ≤ 255) (b0 : 0 ≤ kb) (b1 : kb ≤ 255) :
    Calls Try.prog 6 #[.slice B m d, .agg #[.int .u8 ka, .int .i64 T], .agg #[.int .u8 kb, .int .i64 Tb]] w fun e w' => e = .returned (.bool true) ∧ Same w w' := by
  have hml : ops.length = m := by have := hB.len; rw [acFlat, flat_len Ac.cells 6 (fun _ => rfl)] at this; omega
  have K0 : Same w ((w.alloc (.cells #[.int .u8 ka, .int .i64 T] 45)).alloc (.cells #[.int .u8 kb, .int .i64 Tb] 45)) := ((Keep.refl _ _).alloc _).alloc _
  by_cases hm : 60 < m
  · clear hB hml
    go_enter Try.func6, Try.ntmps6
    go_wp2_with (go_at_call 11; refine (awake_any _).mono ?_; rintro e w' ⟨rfl, hk⟩)
    go_ret
    exact ⟨rfl, K0.then hk⟩
  · have hm' : m ≤ 60 := by omega
    have HB := hid hB
    have HX := hid ((Blk.made w 45 #[.int .u8 ka, .int .i64 T]).alloc (.cells #[.int .u8 kb, .int .i64 Tb] 45))
    have HY := hid (Blk.made (w.alloc (.cells #[.int .u8 ka, .int .i64 T] 45)) 45 #[.int .u8 kb, .int .i64 Tb])
    rw [World.size_alloc] at HY
    have HK0 := hid K0
    clear hm hB K0
    go_enter Try.func6, Try.ntmps6
    go_wp2
    go_loopw [7, 30] (fun v i wr => ∃ (k : Nat) (x : Int), k ≤ m ∧ v = .int .i64 x ∧ i = .int .i64 k ∧ Same ((w.alloc (.cells #[.int .u8 ka, .int .i64 T] 45)).alloc (.cells #[.int .u8 kb, .int .i64 Tb] 45)) wr) (fun _ i _ => m - (RowKit.intOf i).toNat)
    case atStart => exact ⟨0, 0, by omega, rfl, rfl, Keep.refl _ _⟩
    case round =>
      obtain ⟨k, x, hkm, rfl, rfl, hKr⟩ := hrel
      by_cases hkn : k < m
      · obtain ⟨a, ha⟩ : ∃ a, ops[k]? = some a := get_some (by omega)
        obtain ⟨b, off, rfl, hb, _, hr⟩ := HB.out.at_ (by omega)
        have hcell : ∀ j u, j < 6 → a.cells[j]? = some u → wr.cell? ⟨b, off + (k * 6 + j), none⟩ = some u := fun j u hj hu =>
          ((HK0.out.then hKr).cell (p := ⟨b, off + (k * 6 + j), none⟩) hb (fun f => f)).trans (hr (k * 6 + j) u (by rw [acFlat_get ops k j hj, ha]; exact hu))
        have q0 : wr.cell? ⟨b, off + k * 6, none⟩ = some (.int .i64 a.k) := hcell 0 _ (by omega) rfl
        have q1 : wr.cell? ⟨b, off + k * 6 + 1, none⟩ = some (.int .i64 a.t) := hcell 1 _ (by omega) rfl
        have q2 : wr.cell? ⟨b, off + k * 6 + 2, none⟩ = some (.int .i64 a.w) := hcell 2 _ (by omega) rfl
        have q3 : wr.cell? ⟨b, off + k * 6 + 3, none⟩ = some (.int .i64 a.e) := hcell 3 _ (by omega) rfl
        have q4 : wr.cell? ⟨b, off + k * 6 + 4, none⟩ = some (.int .i64 a.n) := hcell 4 _ (by omega) rfl
        have q5 : wr.cell? ⟨b, off + k * 6 + 5, none⟩ = some (.int .i64 a.l) := hcell 5 _ (by omega) rfl
        have HKr := hid hKr
        clear hcell hr ha hKr
        obtain ⟨kk, t, ww, ep, nw, ln⟩ := a
        simp only at q0 q1 q2 q3 q4 q5
        by_cases hx : nw < x
        · go_wp2_with (go_at_call 11; refine (awake_any _).mono ?_; rintro e w' ⟨rfl, hk⟩)
          go_ret
          exact ⟨rfl, ((HK0.out.then HKr.out).alloc _).then hk⟩
        · go_wp2
          go_roundw
          case rel => exact ⟨k + 1, nw, by omega, rfl, by go_num, HKr.out.alloc _⟩
          case measure => simp [RowKit.intOf]; omega
      · have HX2 := hid (HX.out.keep hKr (fun f => f))
        have hY2 := HY.out.keep hKr (fun f => f)
        have A0 : wr.cell? ⟨w.heap.size, 0, none⟩ = some (.int .u8 ka) := HX2.out.at_ 0
        have A1 : wr.cell? ⟨w.heap.size, 1, none⟩ = some (.int .i64 T) := HX2.out.at_ 1
        have B0 : wr.cell? ⟨w.heap.size + 1, 0, none⟩ = some (.int .u8 kb) := hY2.at_ 0
        have B1 : wr.cell? ⟨w.heap.size + 1, 1, none⟩ = some (.int .i64 Tb) := hY2.at_ 1
        have hlo2 := hY2.lt
        have HK2 := hid (HK0.out.then hKr)
        have hlo : w.heap.size < wr.heap.size := by have := hKr.size; simp at this; omega
        clear hKr HK0 HX hY2 HY
        go_wp2
        generalize hSB : wr.heap.size = SB at *
        have HSB := hid hSB
        clear hSB
        go_loopw [46] (fun i w2 => ∃ k : Nat, k ≤ 2 ∧ i = .int .i64 k ∧ XR w w2 SB ka T kb Tb ops k) (fun i _ => 2 - (RowKit.intOf i).toNat)
        case atStart =>
          refine ⟨0, by omega, rfl, .inl ⟨rfl, ?_⟩⟩
          have h2 := Blk.made (wr.alloc (.cells #[.pointer none, .pointer none] 48)) 45 #[.int .u8 ka, .int .i64 T, .int .u8 kb, .int .i64 Tb]
          have h3 := Blk.made wr 48 #[.pointer none, .pointer none]
          rw [World.size_alloc, HSB.out] at h2
          rw [HSB.out] at h3
          exact ⟨(HX2.out.alloc _).alloc _, h3.alloc _, h2, (HK2.out.alloc _).alloc _, hlo⟩
        case round =>
          obtain ⟨k2, hk2, rfl, hXR⟩ := hrel
          clear A0 A1 B0 B1 HX2 HK2 HSB hlo2
          by_cases h2 : k2 < 2
          · obtain ⟨K, T', v0, v1, hK0, hK1, hXI, c0, c1, hold⟩ := hXR.open h2 a0 a1 b0 b1
            clear hXR
            have hsz := hXI.lst.lt
            have hka : Same wr ((wr.alloc (.cells #[.int .u8 K, .int .i64 T'] 45)).alloc (.cells #[.int .i64 0, .int .i64 1, .int .i64 2] 3)) := ((Keep.refl _ _).alloc _).alloc _
            have HN := hid (new_any ((wr.alloc (.cells #[.int .u8 K, .int .i64 T'] 45)).alloc (.cells #[.int .i64 0, .int .i64 1, .int .i64 2] 3)) (some ⟨wr.heap.size + 1, 0, none⟩) 3 3 [0, 1, 2] 10 (fun _ => False) (by
              have := Sl.of_blk (Av := fun _ => False) (size := 1) (n := 3) (Blk.made (wr.alloc (.cells #[.int .u8 K, .int .i64 T'] 45)) 3 #[.int .i64 0, .int .i64 1, .int .i64 2]) rfl (fun f => f)
              rwa [World.size_alloc] at this) (by omega) (by omega) rfl)
            have HBX := hid ((Blk.made wr 45 #[.int .u8 K, .int .i64 T']).alloc (.cells #[.int .i64 0, .int .i64 1, .int .i64 2] 3))
            have HXI := hid (hXI.same hka)
            have HOLD := hid hold
            have HKA := hid hka
            clear hXI hold hka
            go_wp2_with fail
            refine HN.out.mono ?_
            rintro e w3 (⟨_, tb, sb, rfl, hb1, hb2, hT, hk⟩ | ⟨h, _⟩)
            · simp only [World.size_alloc] at hb1 hb2
              have HT := hid hT
              have hX3 := HXI.out.same hk
              have d0 : w3.cell? ⟨wr.heap.size, 0, none⟩ = some (.int .u8 K) := (HBX.out.keep hk (fun f => f)).at_ 0
              have d1 : w3.cell? ⟨w.heap.size, 1, none⟩ = some (.int .i64 T) := hX3.box.at_ 1
              have HX3 := hid hX3
              have HK3 := hid (HKA.out.then hk)
              clear hT hX3 hk HXI HBX HKA HN
              obtain ⟨n, hn⟩ : ∃ n : Nat, K % ((m : Int) + 1) = n := ⟨(K % ((m : Int) + 1)).toNat, by have := Int.emod_nonneg K (show (m : Int) + 1 ≠ 0 by omega); omega⟩
              have hnm : n ≤ m := by have := Int.emod_lt_of_pos K (show (0 : Int) < (m : Int) + 1 by omega); omega
              go_wp2_with fail
              have HOLDf := hid (fun W (hk : Keep (· = sb) w3 W) => HOLD.out.step HK3.out (by omega) hk)
              have HSW := hid (⟨HK3.out.size, hsz, hb1, hb2⟩ : wr.heap.size ≤ w3.heap.size ∧ SB + 1 < wr.heap.size ∧ wr.heap.size + 1 + 1 ≤ tb ∧ wr.heap.size + 1 + 1 ≤ sb)
              have hsbw : w.heap.size < sb := by have := HX3.out.lo; omega
              have hSBsb : SB + 1 < sb := by omega
              have hSBtb : SB + 1 < tb := by omega
              have HKW := hid HX3.out.keep
              clear hn d0 d1 c0 c1 hb1 hb2 hsz
              go_loopw [72] (fun i w4 => ∃ j : Nat, j ≤ n ∧ i = .int .i64 j ∧ IsTable w4 tb sb (acts L0 (ops.take j)) ∧ ByT T (ops.take j) ∧ Keep (· = sb) w3 w4) (fun i _ => n - (RowKit.intOf i).toNat)
              case atStart => exact ⟨0, by omega, rfl, HT.out, fun a ha => by simp at ha, Keep.refl _ _⟩
              case round =>
                obtain ⟨j, hjn, rfl, hT4, hBy, hK4⟩ := hrel
                by_cases hlt : j < n
                · obtain ⟨a, ha⟩ : ∃ a, ops[j]? = some a := get_some (by omega)
                  obtain ⟨b, off, rfl, hb, _, hr⟩ := HB.out.at_ (by omega)
                  have hcell : ∀ i u, i < 6 → a.cells[i]? = some u → wr.cell? ⟨b, off + (j * 6 + i), none⟩ = some u := fun i u hi hu =>
                    ((HKW.out.wide (T := (· = sb)) (fun _ _ f => f.elim) |>.trans hK4 (fun _ _ h => h)).cell (p := ⟨b, off + (j * 6 + i), none⟩) hb (by show b ≠ sb; omega)).trans (hr (j * 6 + i) u (by rw [acFlat_get ops j i hi, ha]; exact hu))
                  have q0 : wr.cell? ⟨b, off + j * 6, none⟩ = some (.int .i64 a.k) := hcell 0 _ (by omega) rfl
                  have q1 : wr.cell? ⟨b, off + j * 6 + 1, none⟩ = some (.int .i64 a.t) := hcell 1 _ (by omega) rfl
                  have q2 : wr.cell? ⟨b, off + j * 6 + 2, none⟩ = some (.int .i64 a.w) := hcell 2 _ (by omega) rfl
                  have q3 : wr.cell? ⟨b, off + j * 6 + 3, none⟩ = some (.int .i64 a.e) := hcell 3 _ (by omega) rfl
                  have q4 : wr.cell? ⟨b, off + j * 6 + 4, none⟩ = some (.int .i64 a.n) := hcell 4 _ (by omega) rfl
                  have q5 : wr.cell? ⟨b, off + j * 6 + 5, none⟩ = some (.int .i64 a.l) := hcell 5 _ (by omega) rfl
                  have hka : Same wr (wr.alloc (.cells a.cells.toArray 47)) := (Keep.refl _ _).alloc _
                  have HKx := hid (hK4.then hka)
                  have HT := hid (hT4.keep hka (fun f => f) (fun f => f))
                  have d1 : wr.cell? ⟨w.heap.size, 1, none⟩ = some (.int .i64 T) := (HX3.out.step hK4 hSBsb).box.at_ 1
                  have hbw : w.heap.size < wr.heap.size := ((HX3.out.step hK4 hSBsb).box).lt
                  by_cases hx : T < a.n
                  · have HBy := hid hBy
                    have WY := HX3.out.step hK4 hSBsb
                    have f1 := WY.st.free k2
                    have f2 := WY.st.at_ k2
                    have f3 : SB < wr.heap.size := by have := WY.lst.lt; omega
                    obtain ⟨vv, hvv⟩ : ∃ vv, (#[v0, v1] : Array Value)[k2]? = some vv := by
                      have : k2 = 0 ∨ k2 = 1 := by omega
                      rcases this with rfl | rfl
                      · exact ⟨_, rfl⟩
                      · exact ⟨_, rfl⟩
                    rw [hvv] at f2
                    clear hvv WY
                    have WX := hid (HX3.out.step hK4 hSBsb)
                    have WH := hid (HOLDf.out _ hK4)
                    have WT := hid ((⟨hT4, hBy, hSBtb, hSBsb⟩ : TT wr SB tb sb ops T j))
                    clear hcell hr hT4 hBy hK4 hka
                    clear ha
                    obtain ⟨kk, t, ww, ep, nw, ln⟩ := a
                    simp only at q0 q1 q2 q3 q4 q5 hx
                    go_wp2
                    go_roundw
                    case rel => exact ⟨k2 + 1, by omega, by go_num, (XR.next WX.out WH.out WT.out h2).same ((Keep.refl _ _).alloc _)⟩
                    case measure => simp [RowKit.intOf]; omega
                  · have HByn := hid (hBy.snoc ha (by omega))
                    have hBX := (Blk.made wr 47 a.cells.toArray)
                    obtain ⟨e0, e1, e2, e3, e4, e5⟩ := Ac.facts hBX
                    by_cases hk0 : a.k = 0
                    · have HS := hid (show acts L0 (ops.take (j + 1)) = (acqR (acts L0 (ops.take j)) a.t a.w a.e a.n a.l).1 by rw [take_snoc ha, acts_append]; simp [acts, act, hk0])
                      clear hcell hr ha hT4 hBy hK4 hka hBX
                      generalize acts L0 (ops.take j) = L at *
                      obtain ⟨kk, t, ww, ep, nw, ln⟩ := a
                      simp only at q0 q1 q2 q3 q4 q5 hx hk0 HS e0 e1 e2 e3 e4 e5
                      subst hk0
                      go_wp2_with fail
                      refine (acq_any _ tb sb L HT.out t ww ep nw ln).mono ?_
                      rintro e w5 ⟨rfl, hT5, hk5⟩
                      have HT5 := hid hT5
                      have HK5 := hid (HKx.out.trans hk5 (fun _ _ h => h))
                      clear hT5 hk5 e0 e1 e2 e3 e4 e5 d1
                      go_wp2
                      go_roundw
                      case rel => exact ⟨j + 1, by omega, by go_num, by rw [HS.out]; exact HT5.out, HByn.out, HK5.out⟩
                      case measure => simp [RowKit.intOf]; omega
                    · by_cases hk1 : a.k = 1
                      · have HS := hid (show acts L0 (ops.take (j + 1)) = (renR (acts L0 (ops.take j)) a.t a.w a.e a.n a.l).1 by rw [take_snoc ha, acts_append]; simp [acts, act, hk1])
                        clear hcell hr ha hT4 hBy hK4 hka hBX
                        generalize acts L0 (ops.take j) = L at *
                        obtain ⟨kk, t, ww, ep, nw, ln⟩ := a
                        simp only at q0 q1 q2 q3 q4 q5 hx hk1 HS e0 e1 e2 e3 e4 e5
                        subst hk1
                        go_wp2_with fail
                        refine (ren_any _ tb sb L HT.out t ww ep nw ln).mono ?_
                        rintro e w5 ⟨rfl, hT5, hk5⟩
                        have HT5 := hid hT5
                        have HK5 := hid (HKx.out.trans hk5 (fun _ _ h => h))
                        clear hT5 hk5 e0 e1 e2 e3 e4 e5 d1
                        go_wp2
                        go_roundw
                        case rel => exact ⟨j + 1, by omega, by go_num, by rw [HS.out]; exact HT5.out, HByn.out, HK5.out⟩
                        case measure => simp [RowKit.intOf]; omega
                      · have HS := hid (show acts L0 (ops.take (j + 1)) = (relR (acts L0 (ops.take j)) a.t a.w a.e a.n).1 by rw [take_snoc ha, acts_append]; simp [acts, act, hk0, hk1])
                        clear hcell hr ha hT4 hBy hK4 hka hBX
                        generalize acts L0 (ops.take j) = L at *
                        obtain ⟨kk, t, ww, ep, nw, ln⟩ := a
                        simp only at q0 q1 q2 q3 q4 q5 hx hk0 hk1 HS e0 e1 e2 e3 e4 e5
                        have hk0' : (kk == 0) = false := by simpa using hk0
                        have hk1' : (kk == 1) = false := by simpa using hk1
                        clear hk0 hk1
                        go_wp2_with fail
                        refine (rel_any _ tb sb L HT.out t ww ep nw).mono ?_
                        rintro e w5 ⟨rfl, hT5, hk5⟩
                        have HT5 := hid hT5
                        have HK5 := hid (HKx.out.trans hk5 (fun _ _ h => h))
                        clear hT5 hk5 e0 e1 e2 e3 e4 e5 d1
                        go_wp2
                        go_roundw
                        case rel => exact ⟨j + 1, by omega, by go_num, by rw [HS.out]; exact HT5.out, HByn.out, HK5.out⟩
                        case measure => simp [RowKit.intOf]; omega
                · have WY := HX3.out.step hK4 hSBsb
                  have f1 := WY.st.free k2
                  have f2 := WY.st.at_ k2
                  have f3 : SB < wr.heap.size := by have := WY.lst.lt; omega
                  obtain ⟨vv, hvv⟩ : ∃ vv, (#[v0, v1] : Array Value)[k2]? = some vv := by
                    have : k2 = 0 ∨ k2 = 1 := by omega
                    rcases this with rfl | rfl
                    · exact ⟨_, rfl⟩
                    · exact ⟨_, rfl⟩
                  rw [hvv] at f2
                  clear hvv WY
                  have WX := hid (HX3.out.step hK4 hSBsb)
                  have WH := hid (HOLDf.out _ hK4)
                  have WT := hid ((⟨hT4, hBy, hSBtb, hSBsb⟩ : TT wr SB tb sb ops T j))
                  clear hT4 hBy hK4
                  go_wp2
                  go_roundw
                  case rel => exact ⟨k2 + 1, by omega, by go_num, XR.next WX.out WH.out WT.out h2⟩
                  case measure => simp [RowKit.intOf]; omega
            · exact absurd h (by decide)
          · generalize wr = wq at *
            have hXR2 : XR w wq SB ka T kb Tb ops 2 := by
              obtain rfl : k2 = 2 := by omega
              exact hXR
            rcases hXR2 with ⟨h, _⟩ | ⟨h, _⟩ | ⟨_, tb, sb, j, tb', sb', j', hXI, hT, hT'⟩
            · omega
            · omega
            · have g0 := hXI.st.at_ 0
              have g1 := hXI.st.at_ 1
              have g2 := hXI.st.lt
              have hKW := hXI.keep
              have g3 := hXI.box.at_ 1
              have g4 := hXI.box.lt
              have HE := hid (fun i => excl (T := T) L0 ops j j' hT.ok hT'.ok i)
              have HT := hid hT.tab
              have HT' := hid hT'.tab
              generalize acts L0 (ops.take j) = S0 at *
              generalize acts L0 (ops.take j') = S1 at *
              have HXI := hid hXI
              have HKW := hid hKW
              clear hT hT' hXI hKW hXR
              go_wp2
              go_loopw [126] (fun i w4 => ∃ k : Nat, k ≤ 3 ∧ i = .int .i64 k ∧ Same wq w4) (fun i _ => 3 - (RowKit.intOf i).toNat)
              case atStart => exact ⟨0, by omega, rfl, Keep.refl _ _⟩
              case round =>
                obtain ⟨i, hi3, rfl, hKi⟩ := hrel
                by_cases hlt : i < 3
                · have p0 : wr.cell? ⟨SB, 0, none⟩ = some (.pointer (some ⟨tb, 0, none⟩)) := (HXI.out.same hKi).st.at_ 0
                  have p1 : wr.cell? ⟨SB, 1, none⟩ = some (.pointer (some ⟨tb', 0, none⟩)) := (HXI.out.same hKi).st.at_ 1
                  have HKi := hid hKi
                  have HL := hid (last_any wr tb sb S0 (HT.out.keep hKi (fun f => f) (fun f => f)) i)
                  clear hKi
                  have hEi := HE.out i
                  unfold sameHold at hEi
                  have HEi := hid hEi
                  clear hEi
                  have HT2 := hid (fun W (hk : Same wr W) => last_any W tb' sb' S1 (HT'.out.keep (HKi.out.then hk) (fun f => f) (fun f => f)) i)
                  generalize lastR S0 i = o at *
                  generalize lastR S1 i = p at *
                  obtain ⟨o1, o2, o3⟩ := o
                  obtain ⟨p1', p2, p3⟩ := p
                  go_wp2_with fail
                  refine HL.out.mono ?_
                  rintro e w5 ⟨rfl, hk5⟩
                  have r1 : w5.cell? ⟨SB, 1, none⟩ = some (.pointer (some ⟨tb', 0, none⟩)) := ((HXI.out.same HKi.out).same hk5).st.at_ 1
                  have HL2 := hid (HT2.out _ hk5)
                  have HK5 := hid (HKi.out.then hk5)
                  clear hk5 p0 p1
                  go_wp2_with fail
                  refine HL2.out.mono ?_
                  rintro e w6 ⟨rfl, hk6⟩
                  have HK6 := hid (HK5.out.then hk6)
                  have r2 : w6.cell? ⟨w.heap.size, 1, none⟩ = some (.int .i64 T) := (HXI.out.same HK6.out).box.at_ 1
                  have r3 := (HXI.out.same HK6.out).box.lt
                  clear hk6 r1
                  have hv0 := valid_any o3 T w6
                  have hv1 := valid_any p3 T w6
                  by_cases h0 : (decide (0 ≤ T) && decide (T ≤ o3)) = true
                  · rw [h0] at hv0
                    by_cases h1 : (decide (0 ≤ T) && decide (T ≤ p3)) = true
                    · rw [h1] at hv1
                      have hq := HEi.out (by simp at h0; exact h0.2) (by simp at h1; exact h1.2)
                      obtain ⟨rfl, rfl⟩ := hq
                      have HV0 := hid hv0
                      have HV1 := hid hv1
                      clear hv0 hv1 h0 h1
                      go_wp2_with (first | (go_at_call 10; ((with_reducible refine HV0.out.mono ?_); rintro e w7 ⟨rfl, rfl⟩)) | (go_at_call 10; ((with_reducible refine HV1.out.mono ?_); rintro e w7 ⟨rfl, rfl⟩)))
                      go_roundw
                      case rel => exact ⟨i + 1, by omega, by go_num, HK6.out⟩
                      case measure => simp [RowKit.intOf]; omega
                    · rw [Bool.not_eq_true] at h1
                      rw [h1] at hv1
                      have HV0 := hid hv0
                      have HV1 := hid hv1
                      clear hv0 hv1 h0 h1
                      go_wp2_with (first | (go_at_call 10; ((with_reducible refine HV0.out.mono ?_); rintro e w7 ⟨rfl, rfl⟩)) | (go_at_call 10; ((with_reducible refine HV1.out.mono ?_); rintro e w7 ⟨rfl, rfl⟩)))
                      go_roundw
                      case rel => exact ⟨i + 1, by omega, by go_num, HK6.out⟩
                      case measure => simp [RowKit.intOf]; omega
                  · rw [Bool.not_eq_true] at h0
                    rw [h0] at hv0
                    have HV0 := hid hv0
                    clear hv0 hv1 h0
                    go_wp2_with (go_at_call 10; ((with_reducible refine HV0.out.mono ?_); rintro e w7 ⟨rfl, rfl⟩))
                    go_roundw
                    case rel => exact ⟨i + 1, by omega, by go_num, HK6.out⟩
                    case measure => simp [RowKit.intOf]; omega
                · have HK7 := hid (HKW.out.then hKi)
                  clear hKi
                  go_wp2_with (go_at_call 11; refine (awake_any _).mono ?_; rintro e w' ⟨rfl, hk⟩)
                  go_ret
                  exact ⟨rfl, HK7.out.then hk⟩
end Go.Proofs.Ytffodheoamlhjaa

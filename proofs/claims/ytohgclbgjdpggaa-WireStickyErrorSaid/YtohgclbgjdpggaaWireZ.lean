import Derived.Test.YtohgclbgjdpggaaWireY
import Derived.Test.YtohgclbgjdpggaaWireR
namespace Go.Proofs.Ytohgclbgjdpggaa
open Go.RowKit

/-- both readers, in one state -/
def RdI (w : World) (rb qb : Nat) (wr : World) : Prop :=
  ∃ s A n c B m d, Rd wr rb (· = qb) A n c s ∧ Rq wr qb (· = rb) B m d s ∧ s.rest.length ≤ 300 ∧ Same w wr

set_option maxRecDepth 100000 in
set_option maxHeartbeats 8000000 in
theorem reader_loop (w0 : World) (Aa : Option Addr) (n0 c0 : Nat) (bs : List UInt8) (hB : Sl w0 (fun _ => False) 1 Aa n0 (bcells bs)) (hn : n0 ≤ 300) (hnc : n0 ≤ c0) (Ka : Option Addr) (m d : Nat) (ks : List UInt8) (hKs : Sl w0 (fun _ => False) 1 Ka m (bcells ks)) (hm : m ≤ 100) :
    Calls Try.prog 3 #[.slice Aa n0 c0, .slice Ka m d] w0 fun e w' => e = .returned (.bool true) ∧ Same w0 w' := by
  have hbl : bs.length = n0 := by have := hB.len; simpa [bcells] using this
  have hkl : ks.length = m := by have := hKs.len; simpa [bcells] using this
  have HBL := hid hbl
  have HKL := hid hkl
  have HB := hid hB
  have HKS := hid hKs
  clear hbl hkl hB hKs
  go_enter Try.func3, Try.ntmps3
  go_wp2_with fail
  refine (awake_any w0).mono ?_
  rintro e w3 ⟨rfl, hk3⟩
  have hkb : Same w3 (w3.alloc (.cells #[] 5)) := (Keep.refl _ w3).alloc _
  have HSR := hid ((HB.out.same hk3).src hkb)
  have HKB := hid hkb
  have HK3 := hid hk3
  clear hk3 hkb
  go_wp2_with (
    at_builtin
    refine EBy.law (.tmp 22) (.tmp 23) (.slice (some ⟨w3.heap.size, 0, none⟩) 0 0) Aa n0 c0 rfl rfl rfl rfl w3.heap.size 0 [] (bcells bs) (Own.lit0 w3 5 1) (by rw [bcells_len, HBL.out]; omega) HSR.out (bcells_one _) (by omega) (by unfold maxLen; omega) (by simp) ?_
    intro A4 c4 w4 hown hg
    simp only [Nat.zero_add, List.nil_append] at hown
    have hk2 : Same w3 w4 := HKB.out.app (Own.lit0 w3 5 1) hg (fun g h1 h2 => by omega)
    have HOW := hid hown
    have HK4 := hid hk2
    clear hg hown hk2)
  refine (newReader_any w4 (fun _ => False) A4 n0 c4 bs (HOW.out.sl (fun _ _ f => f)) (by omega)).mono ?_
  rintro e w5 ⟨rb, A5, c5, rfl, hrb, hR, hk5⟩
  have HK5 := hid ((HK3.out.then HK4.out).then hk5)
  have hrbl := hR.top.lt
  have hrw : w0.heap.size ≤ rb := by have := HK3.out.size; have := HK4.out.size; omega
  have hs5 := HK5.out.size
  have hka : Same w5 (w5.alloc (.cells #[.slice Aa n0 c0, .int .i64 0] 29)) := (Keep.refl _ w5).alloc _
  have HI : Hid (RdI w0 rb w5.heap.size (w5.alloc (.cells #[.slice Aa n0 c0, .int .i64 0] 29))) := hid ⟨⟨bs, 0⟩, A5, bs.length, c5, Aa, n0, c0,
    (hR.wide (Av' := fun i => i = w5.heap.size) (fun i hi hs => by omega)).same hka,
    ⟨Blk.made _ _ _, fun _ => ⟨((HB.out.old.same (HK5.out.then hka)).wide (fun i _ hs => by rcases hs with hs | hs <;> omega)), hnc⟩, by omega⟩, by have := HBL.out; simp only; omega, HK5.out.then hka⟩
  clear hR hk5 HOW HKB HSR hka
  go_wp2
  generalize hqb : w5.heap.size = qb at *
  have hrq : ¬ rb = qb := by omega
  clear hqb
  go_loopw [33] (fun i wr => ∃ k : Nat, k ≤ m ∧ i = .int .i64 k ∧ RdI w0 rb qb wr) (fun i _ => m - (RowKit.intOf i).toNat)
  case atStart => exact ⟨0, by omega, rfl, HI.out⟩
  case round =>
    obtain ⟨k, hkm, rfl, s, A1, n1, c1, B1, m1, d1, hR, hQ, hsl, hK⟩ := hrel
    have hrb2 := hR.top.lt
    have hqb2 := hQ.top.lt
    by_cases hlt : k < m
    · obtain ⟨kb, hkb⟩ := get_some (l := ks) (k := k) (by have := HKL.out; omega)
      obtain ⟨bk, offk, rfl, hbk, _, hrk⟩ := HKS.out.at_ (by omega)
      have q0 : wr.cell? ⟨bk, offk + k, none⟩ = some (.int .u8 kb.toNat) := (hK.cell (p := ⟨bk, offk + k, none⟩) hbk (fun f => f)).trans (hrk k _ (by simp [bcells, hkb, bv]))
      have hkb2 := kb.toNat_lt
      clear hkb hrk
      generalize kb.toNat = kn at *
      have HC := hid (read_any wr rb (· = qb) A1 n1 c1 s hR (by omega) ((kn : Int) % 5) (by omega) (by omega))
      have HG := hid (fun W (hk : Keep (· = rb) wr W) => get_any W qb (· = rb) B1 m1 d1 s (hQ.keep hk (fun i _ e => e)) (by omega) ((kn : Int) % 5) (by omega) (by omega))
      have hglen := getT_len ((kn : Int) % 5) s
      have hok := getT_ok ((kn : Int) % 5) (by omega) (by omega) s (by omega)
      have HL := hid hok.l
      have HK := hid hK
      clear hR hQ hok hK
      generalize getT ((kn : Int) % 5) s = q at *
      obtain ⟨t, s2⟩ := q
      simp only at HC HG hglen HL
      go_wp2_with fail
      refine HC.out.mono ?_
      rintro e w6 ⟨A6, n6, c6, x, rfl, hxp, hxo, hR6, hk6⟩
      have HXP := hid hxp
      have HXO := hid hxo
      have HR6 := hid hR6
      have HK6 := hid (HK.out.trans hk6 (fun i hi e => by omega))
      have HG6 := hid (HG.out w6 hk6)
      have hz6 := hk6.size
      clear hxp hxo hR6 hk6 HC HG
      go_wp2_with fail
      refine HG6.out.mono ?_
      rintro e w7 ⟨A7, n7, c7, y, rfl, hyp, hyo, hQ7, hk7⟩
      have HR7 := hid (HR6.out.keep hk7 (fun i _ e => e))
      have HQ7 := hid hQ7
      have HK7 := hid (HK6.out.trans hk7 (fun i hi e => by omega))
      have hcs := same_any w7 _ _ x y (HXO.out.keep hk7 (fun i _ e => by omega)) hyo (by
        have h1 := HXO.out.len
        have h2 := congrArg Tg.l HXP.out
        simp only [Tm.pt] at h2
        have := HL.out
        rw [← h2] at this; omega)
      rw [HXP.out, hyp, sameT_self] at hcs
      have HCS := hid hcs
      clear hyp hyo hQ7 hk7 hcs HG6
      go_wp2_with fail
      refine HCS.out.mono ?_
      rintro e w8 ⟨rfl, hk8⟩
      have HR8 := hid (HR7.out.same hk8)
      have HQ8 := hid (HQ7.out.same hk8)
      have HK8 := hid (HK7.out.then hk8)
      have HFI := hid (finish_any w8 rb (· = qb) A6 n6 c6 s2 HR8.out (by omega))
      have HEN := hid (end_any w8 qb (· = rb) A7 n7 c7 s2 HQ8.out (by omega))
      have HZ : Hid (RdI w0 rb qb w8) := hid ⟨s2, A6, n6, c6, A7, n7, c7, HR8.out, HQ8.out, by omega, HK8.out⟩
      generalize endE s2 = E at *
      clear hk8 HCS
      go_wp2_with fail
      refine HFI.out.mono ?_
      rintro e w9 ⟨rfl, rfl⟩
      go_wp2_with fail
      refine HEN.out.mono ?_
      rintro e w9 ⟨rfl, rfl⟩
      go_wp2
      go_roundw
      case rel => exact ⟨k + 1, by omega, by go_num, HZ.out⟩
      case measure => simp [RowKit.intOf]; omega
    · have HFI := hid (finish_any wr rb (· = qb) A1 n1 c1 s hR (by omega))
      have HEN := hid (end_any wr qb (· = rb) B1 m1 d1 s hQ (by omega))
      have HK := hid hK
      generalize endE s = E at *
      clear hR hQ hK
      go_wp2_with fail
      refine HFI.out.mono ?_
      rintro e w9 ⟨rfl, rfl⟩
      go_wp2_with fail
      refine HEN.out.mono ?_
      rintro e w9 ⟨rfl, rfl⟩
      go_wp2
      go_ret
      exact ⟨rfl, HK.out⟩
set_option maxHeartbeats 2000000 in
theorem wireReader_any (w : World) (Aa : Option Addr) (n c : Nat) (l : List Int) (hB : Sl w (fun _ => False) 1 Aa n (l.map (.int .u8))) (hl : ∀ a ∈ l, (Lit.int .u8 a).wf = true) (hnc : n ≤ c) (Ka : Option Addr) (m d : Nat) (k : List Int) (hK : Sl w (fun _ => False) 1 Ka m (k.map (.int .u8))) (hk : ∀ a ∈ k, (Lit.int .u8 a).wf = true) :
    Calls Try.prog 3 #[.slice Aa n c, .slice Ka m d] w fun e w' => e = .returned (.bool true) ∧ Same w w' := by
  rw [bcells_ints (fun a ha => u8_wf (hl a ha))] at hB
  rw [bcells_ints (fun a ha => u8_wf (hk a ha))] at hK
  by_cases hn : 300 < n
  · clear hB hK hl hk hnc
    go_enter Try.func3, Try.ntmps3
    go_wp2_with fail
    refine (awake_any w).mono ?_
    rintro e w3 ⟨rfl, hk3⟩
    go_wp2_with fail
    refine (awake_any w3).mono ?_
    rintro e w4 ⟨rfl, hk4⟩
    go_wp2
    go_ret
    exact ⟨rfl, hk3.then hk4⟩
  · by_cases hm : 100 < m
    · clear hB hK hl hk hnc
      go_enter Try.func3, Try.ntmps3
      go_wp2_with fail
      refine (awake_any w).mono ?_
      rintro e w3 ⟨rfl, hk3⟩
      go_wp2_with fail
      refine (awake_any w3).mono ?_
      rintro e w4 ⟨rfl, hk4⟩
      go_wp2
      go_ret
      exact ⟨rfl, hk3.then hk4⟩
    · exact reader_loop w Aa n c _ hB (by omega) hnc Ka m d _ hK (by omega)
end Go.Proofs.Ytohgclbgjdpggaa

import Derived.Test.YtmkcphhgimlkgaaLeT
namespace Go.Proofs.Ytmkcphhgimlkgaa
open Go.RowKit
/-! ## The reference's New and Last -/
def RlPost (w : World) (r : Int × Int × Int) (e : Ending) (w' : World) : Prop := ∃ gvv : Int, e = .returned (.agg #[.int .i64 r.1, .int .i64 r.2.1, .int .i64 r.2.2, .int .i64 gvv]) ∧ Same w w'
set_option maxHeartbeats 1000000 in
theorem rlast_any (w : World) (Av : Nat → Prop) (A : Option Addr) (c : Nat) (l : List St) (hH : Th w Av A l) (hs : l.length ≤ 64) (thing : Int) :
    Calls Try.prog 24 #[.slice A l.length c, .int .i64 thing] w (RlPost w (lastR l thing)) := by
  unfold lastR
  by_cases h0 : 0 ≤ thing
  · rw [if_pos h0]
    obtain ⟨i, rfl⟩ := Int.eq_ofNat_of_zero_le h0
    simp only [Int.toNat_natCast]
    by_cases hi : i < l.length
    · obtain ⟨s, hls⟩ := get_some hi
      obtain ⟨b, off, rfl, hb, c0, c1, c2, c3⟩ := hH.at4 hls
      rw [hls]
      simp only
      clear hls hH
      generalize l.length = n at *
      go_enter Try.func24, Try.ntmps24
      go_wp2
      refine bodyPost_ret (v := .agg #[.int .i64 s.h, .int .i64 s.e, .int .i64 s.u, .int .i64 (gv s.r)]) (by simp [results, Try.results24, go_sem]) rfl ⟨_, rfl, ?_⟩
      exact (Keep.refl _ _).alloc _
    · rw [List.getElem?_eq_none (by omega)]
      clear hH
      generalize l.length = n at *
      go_enter Try.func24, Try.ntmps24
      go_wp2
      refine bodyPost_ret (v := .agg #[.int .i64 0, .int .i64 0, .int .i64 0, .int .i64 0]) (by simp [results, Try.results24, go_sem]) rfl ⟨_, rfl, ?_⟩
      exact (Keep.refl _ _).alloc _
  · rw [if_neg h0]
    clear hH
    go_enter Try.func24, Try.ntmps24
    go_wp2
    refine bodyPost_ret (v := .agg #[.int .i64 0, .int .i64 0, .int .i64 0, .int .i64 0]) (by simp [results, Try.results24, go_sem]) rfl ⟨_, rfl, ?_⟩
    exact (Keep.refl _ _).alloc _
end Go.Proofs.Ytmkcphhgimlkgaa

import Derived.Test.YtbellndcgagclaaAfter
import Derived.Test.YtbellndcgagclaaFew
namespace Go.Proofs.Ytbellndcgagclaa
open Go.RowKit

/-! ## The log and its model side by side -/
def NewPost (w : World) (e : Ending) (w' : World) : Prop := e = .returned (.pointer (some ⟨w.heap.size, 0, none⟩)) ∧ w' = w.alloc (.cells #[.slice none 0 0] 73)
theorem new_any (w : World) : Calls Try.prog 17 #[] w (NewPost w) := by
  go_enter Try.func17, Try.ntmps17
  go_wp2_with fail
  go_ret
  exact ⟨rfl, rfl⟩
theorem IsLog.made (w : World) (Av : Nat → Prop) (hAv : ∀ i, Av i → i < w.heap.size) : IsLog (w.alloc (.cells #[.slice none 0 0] 73)) Av w.heap.size none none 0 [] :=
  ⟨Blk.made w 73 _, Own.nil _ _ _ _, rfl, fun h => by have := hAv _ h; omega, by simp, by simp, by simp⟩
def EntryPost (w : World) (t : Int) (e : Ending) (w' : World) : Prop := e = .returned (En.val ⟨t, 1, none, 0, 0, []⟩) ∧ Same w w'
theorem entry_any (w : World) (t : Int) : Calls Try.prog 34 #[.int .i64 t] w (EntryPost w t) := by
  have hb := (Blk.made w 46 #[.int .i64 0, .int .i64 0, .slice none 0 0])
  have f0 := hb.free 0
  have f1 := hb.free 1
  have f2 := hb.free 2
  have z0 : (w.alloc (.cells #[.int .i64 0, .int .i64 0, .slice none 0 0] 46)).cell? ⟨w.heap.size, 0, none⟩ = some (.int .i64 0) := hb.at_ 0
  have z1 : (w.alloc (.cells #[.int .i64 0, .int .i64 0, .slice none 0 0] 46)).cell? ⟨w.heap.size, 1, none⟩ = some (.int .i64 0) := hb.at_ 1
  have z2 : (w.alloc (.cells #[.int .i64 0, .int .i64 0, .slice none 0 0] 46)).cell? ⟨w.heap.size, 2, none⟩ = some (.slice none 0 0) := hb.at_ 2
  have hb2 := (Blk.made w 46 #[.int .i64 t, .int .i64 1, .slice none 0 0])
  have y0 : (w.alloc (.cells #[.int .i64 t, .int .i64 1, .slice none 0 0] 46)).cell? ⟨w.heap.size, 0, none⟩ = some (.int .i64 t) := hb2.at_ 0
  have y1 : (w.alloc (.cells #[.int .i64 t, .int .i64 1, .slice none 0 0] 46)).cell? ⟨w.heap.size, 1, none⟩ = some (.int .i64 1) := hb2.at_ 1
  have y2 : (w.alloc (.cells #[.int .i64 t, .int .i64 1, .slice none 0 0] 46)).cell? ⟨w.heap.size, 2, none⟩ = some (.slice none 0 0) := hb2.at_ 2
  clear hb hb2
  go_enter Try.func34, Try.ntmps34
  go_wp2_with fail
  exact bodyPost_ret (v := .agg #[.int .i64 t, .int .i64 1, .slice none 0 0]) (by simp [results, Try.results34, go_sem, y0, y1, y2]) rfl ⟨rfl, (Keep.refl _ w).alloc _⟩
set_option maxHeartbeats 2000000 in
set_option maxRecDepth 100000 in
theorem agrees_any (w : World) (Av Bv : Nat → Prop) (lb : Nat) (r : Option Nat) (A : Option Addr) (c : Nat) (l : List En) (X : Option Addr) (n d : Nat) (m : List En) (h : IsLog w Av lb r A c l) (h2 : Ls w Bv X n d m) (hq : l.map En.pe = m.map En.pe) (hn : l.length ≤ 1000) :
    Calls Try.prog 19 #[.pointer (some ⟨lb, 0, none⟩), .slice X n d] w (PlainPost w true) := by
  have hlen : n = l.length := by
    have := congrArg List.length hq
    simp at this
    rw [this, h2.len]
  have hlast : lastT En.pe l = lastT En.pe m := by rw [← lastT_map En.pe l, ← lastT_map En.pe m, hq]
  have HL := hid h
  have HM := hid h2
  have HA := hid (last_any w Av lb r A c l h hn)
  have HB := hid (fun W (hs : Same w W) => rlast_any W Bv X n d m (h2.same hs) (by omega))
  have HS := hid (fun W (hs : Same w W) => slice_any W Av lb r A c l (h.same hs) hn 1 1000)
  have HE := hid (fun W (hs : Same w W) (Cv : Nat → Prop) Y p q (l' : List En) (h' : Ls W Cv Y p q l') (hp : p ≤ 1000) => same_any W Cv Bv Y X p q n d l' m h' (h2.same hs) hp (by omega))
  have Hq := hid hq
  have hf : Hid (fromN l 1 1000 = l) := hid (by
    unfold fromN
    simp only [show ¬ (1000 : Int) < 1 by omega, if_false]
    rw [show (max (1 : Int) 1 - 1).toNat = 0 by rfl, List.drop_zero, List.take_of_length_le (by omega)])
  rw [← hlast] at HB
  subst hlen
  clear h h2 hlast hq
  generalize lastT En.pe l = T at *
  go_enter Try.func19, Try.ntmps19
  go_wp2_with (first
    | (go_at_call 35; refine HA.out.mono ?_; rintro e w2 ⟨rfl, hk2⟩
       have HK2 := hid hk2
       clear hk2)
    | (go_at_call 42; refine (HB.out _ HK2.out).mono ?_; rintro e w3 ⟨rfl, hk3⟩
       have HK3 := hid (HK2.out.then hk3)
       clear hk3)
    | (go_at_call 20; refine (HS.out _ HK3.out).mono ?_; rintro e w4 ⟨Y, p, q, l', rfl, hl', hm', hk4⟩
       have HK4 := hid (HK3.out.then hk4)
       have Hl' := hid hl'
       have Hm' := hid hm'
       have hp : p ≤ 1000 := by
         have h1 := congrArg List.length hm'
         rw [hf.out] at h1
         simp at h1
         rw [← hl'.len, h1]; exact hn
       have HE' := hid (HE.out _ HK4.out _ _ _ _ _ hl' hp)
       have hse : sameE l' m = true := by
         unfold sameE
         rw [hm', hf.out, Hq.out]
         simp
       rw [hse] at HE'
       clear hl' hm' hk4 hse)
    | (go_at_call 21; refine HE'.out.mono ?_; rintro e w5 ⟨rfl, hk5⟩
       have HK5 := hid (HK4.out.then hk5)
       clear hk5))
  go_ret
  exact ⟨by simp, HK5.out⟩
end Go.Proofs.Ytbellndcgagclaa

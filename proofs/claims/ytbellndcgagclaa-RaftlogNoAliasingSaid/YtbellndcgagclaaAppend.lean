import Derived.Test.YtbellndcgagclaaPush
namespace Go.Proofs.Ytbellndcgagclaa
open Go.RowKit

set_option maxHeartbeats 8000000 in
set_option maxRecDepth 100000 in
theorem append_any (w : World) (Av : Nat → Prop) (hAv : ∀ i, Av i → i < w.heap.size) (lb : Nat) (r : Option Nat) (A : Option Addr) (c : Nat) (l : List En) (h : IsLog w Av lb r A c l) (hn : l.length ≤ 1000) (x : En) (Ax : Nat → Prop) (hx : EnOk w Ax x) :
    Calls Try.prog 29 #[.pointer (some ⟨lb, 0, none⟩), x.val] w (LogPost w Av lb r ((addL En.pe l x).map En.pe) (.tuple #[.int .i64 (addN En.pe l x), .int .i64 (addErr En.pe l x)])) := by
  have HI := hid h
  have HX := hid hx
  have hk1 : Same w (w.alloc (.cells #[.int .i64 x.t, .int .i64 x.k, .slice x.A x.m x.c] 46)) := (Keep.refl _ w).alloc _
  have HK1 := hid hk1
  have HR := hid (valid_any _ Ax x (hx.same hk1))
  have HLa := hid (fun W (hs : Same w W) => last_any W Av lb r A c l (h.same hs) hn)
  have hstay : Hid (∀ W v, Same w W → addL En.pe l x = l → LogPost w Av lb r ((addL En.pe l x).map En.pe) v (.returned v) W) := hid (fun W v hs e => ⟨r, A, c, l, rfl, HI.out.same hs, by rw [e], hs.wide (fun _ _ f => f.elim), fun g e => .inl e⟩)
  unfold En.val at HR ⊢
  clear h hx hk1
  by_cases hr : rightP x.pe = true
  · rw [hr] at HR
    by_cases ht : x.t < lastT En.pe l
    · have e8 : addErr En.pe l x = 8 := by unfold addErr; rw [if_pos hr, if_pos (show x.pe.1 < _ from ht)]
      have e1 := hid (show addL En.pe l x = l by unfold addL; rw [e8]; rfl)
      have e2 : addN En.pe l x = 0 := by unfold addN; rw [e8]; rfl
      rw [e8, e2]
      have hT := hid (rfl : lastT En.pe l = lastT En.pe l)
      generalize lastT En.pe l = T at *
      clear hT
      go_enter Try.func29, Try.ntmps29
      go_wp2_with (first
        | (go_at_call 38; refine HR.out.mono ?_; rintro e w2 ⟨rfl, hk2⟩
           have HK2 := hid (HK1.out.then hk2)
           have HB2 := hid ((Blk.made w 46 #[.int .i64 x.t, .int .i64 x.k, .slice x.A x.m x.c]).keep hk2 (fun f => f))
           clear hk2)
        | (go_at_call 35; refine (HLa.out _ HK2.out).mono ?_; rintro e w3 ⟨rfl, hk3⟩
           have c0 : w3.cell? ⟨w.heap.size, 0, none⟩ = some (.int .i64 x.t) := (HB2.out.keep hk3 (fun f => f)).at_ 0
           have HK3 := hid (HK2.out.then hk3)
           clear hk3))
      go_ret2
      exact hstay.out _ _ HK3.out e1.out
    · have e8 : addErr En.pe l x = 0 := by unfold addErr; rw [if_pos hr, if_neg (show ¬ x.pe.1 < _ from ht)]
      have e1 : addL En.pe l x = l ++ [x] := by unfold addL; rw [e8]; rfl
      have e2 : addN En.pe l x = l.length + 1 := by unfold addN; rw [e8]; rfl
      have hx8 := rightP_len HX.out hr
      rw [e8, e1, e2]
      clear hstay
      generalize lastT En.pe l = T at *
      go_enter Try.func29, Try.ntmps29
      go_wp2_with (first
        | (go_at_call 38; refine HR.out.mono ?_; rintro e w2 ⟨rfl, hk2⟩
           have HK2 := hid (HK1.out.then hk2)
           have HB2 := hid ((Blk.made w 46 #[.int .i64 x.t, .int .i64 x.k, .slice x.A x.m x.c]).keep hk2 (fun f => f))
           clear hk2)
        | (go_at_call 35; refine (HLa.out _ HK2.out).mono ?_; rintro e w3 ⟨rfl, hk3⟩
           have HB3 := hid (HB2.out.keep hk3 (fun f => f))
           have c0 : w3.cell? ⟨w.heap.size, 0, none⟩ = some (.int .i64 x.t) := HB3.out.at_ 0
           have c1 : w3.cell? ⟨w.heap.size, 1, none⟩ = some (.int .i64 x.k) := HB3.out.at_ 1
           have c2 : w3.cell? ⟨w.heap.size, 2, none⟩ = some (.slice x.A x.m x.c) := HB3.out.at_ 2
           have HK3 := hid (HK2.out.then hk3)
           have cl : w3.cell? ⟨lb, 0, none⟩ = some (.slice A l.length c) := (HI.out.top.keep HK3.out (fun f => f)).at_ 0
           clear hk3))
      have HC := hid (clone_any w3.drew Ax x (HX.out.same HK3.out.drew) hx8)
      unfold En.val at HC
      go_region_law (first
        | (go_simp
           go_at_call 39; refine HC.out.mono ?_; rintro e w5 ⟨B, d, rfl, he5, hk5⟩
           unfold En.val
           have HE5 := hid (he5.wide (fun i _ (hs : i < w.heap.size) => Nat.lt_of_lt_of_le hs HK3.out.size))
           have HK5 := hid (HK3.out.drew.then hk5)
           have HI5 := hid (HI.out.same HK5.out)
           have cl5 : w5.cell? ⟨lb, 0, none⟩ = some (.slice A l.length c) := HI5.out.c0
           have hl5 : lb < w5.heap.size := HI5.out.top.lt
           have hSa := hid (fun (_ : 0 < 1) => (⟨_, rfl, src_new (w := w5) (t := 46) (cs := #[.int .i64 x.t, .int .i64 x.k, .slice B x.m d]) (news := (En.mk x.t x.k B x.m d x.body).cells) rfl⟩ : ∃ ad, some (⟨w5.heap.size, 0, none⟩ : Addr) = some ad ∧ ∀ j u, (En.mk x.t x.k B x.m d x.body).cells[j]? = some u → (w5.alloc (.cells #[.int .i64 x.t, .int .i64 x.k, .slice B x.m d] 46)).cell? (ad.add j) = some u))
           have hOa := hid (World.ownsRow.alloc HI5.out.row (.cells #[.int .i64 x.t, .int .i64 x.k, .slice B x.m d] 46))
           clear he5 hk5)
        | (refine E26.step2 rfl (.tmp 24) (.tmp 27) rfl (.slice A l.length c) (some ⟨w5.heap.size, 0, none⟩) 1 1 rfl rfl 0 l.length (enFlat l) (En.mk x.t x.k B x.m d x.body).cells (l.length + 1) _ rfl rfl hOa.out rfl hSa.out (by intro u hu; exact enFlat_one [En.mk x.t x.k B x.m d x.body] u (by simpa [enFlat] using hu)) (by omega) (by unfold maxLen; omega) (Nat.zero_le _) ?_
           intro A7 c7 w7 ho7 hg7 hw7
           have hP := HI.out.push hAv HK5.out HE5.out hr ho7 hg7 hw7
           have c7a := hP.2.2.2.1
           have f7a := hP.2.2.2.2
           have HP := hid hP
           have c9 : (w7.setCell ⟨lb, 0, none⟩ (.slice A7 (l.length + 1) c7)).cell? ⟨lb, 0, none⟩ = some (.slice A7 (l.length + 1) c7) := by
             have := hP.1.c0
             simpa using this
           clear ho7 hg7 hw7 hP))
      all_goals
        go_wp2_with fail
        go_ret2
        refine ⟨_, A7, c7, l ++ [⟨x.t, x.k, B, x.m, d, x.body⟩], rfl, HP.out.1, ?_, HP.out.2.1, HP.out.2.2.1⟩
        simp [En.pe]
  · have hr' : rightP x.pe = false := by simpa using hr
    rw [hr'] at HR
    have e8 : addErr En.pe l x = 1 := by unfold addErr; rw [if_neg hr]
    have e1 := hid (show addL En.pe l x = l by unfold addL; rw [e8]; rfl)
    have e2 : addN En.pe l x = 0 := by unfold addN; rw [e8]; rfl
    rw [e8, e2]
    go_enter Try.func29, Try.ntmps29
    go_wp2_with (go_at_call 38; refine HR.out.mono ?_; rintro e w2 ⟨rfl, hk2⟩)
    go_ret2
    exact hstay.out _ _ (HK1.out.then hk2) e1.out
end Go.Proofs.Ytbellndcgagclaa

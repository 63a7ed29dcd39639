import Derived.Test.YtmkcphhgimlkgaaDiA
import Derived.Test.YtmkcphhgimlkgaaStep
import Derived.Deep.Cut
namespace Go.Proofs.Ytmkcphhgimlkgaa
open Go.RowKit

/-! ## District: proposals, plain -/
def firstK (p : Nat → Bool) (n d : Nat) : Option Nat := (List.range n).find? (fun i => !p ((d + i) % n))
def succK (p : Nat → Bool) (n d : Nat) : Int := match firstK p n d with
  | some i => (((d + i) % n : Nat) : Int)
  | none => -1
theorem firstK_some {p : Nat → Bool} {n d k : Nat} (h : ∀ i, i < k → p ((d + i) % n) = true) (hk : k < n) (hp : p ((d + k) % n) = false) : firstK p n d = some k := by
  rw [firstK, List.find?_eq_some_iff_append]
  refine ⟨by simp [hp], List.range k, (List.range n).drop (k + 1), ?_, ?_⟩
  · have h1 : (List.range n).take k = List.range k := by rw [List.take_range, Nat.min_eq_left (by omega)]
    have h2 : (List.range n)[k]? = some k := by simp [hk]
    obtain ⟨hk', h3⟩ := List.getElem?_eq_some_iff.1 h2
    have h4 := List.take_append_drop k (List.range n)
    rw [List.drop_eq_getElem_cons hk', h3, h1] at h4
    exact h4.symm
  · intro i hi
    simp at hi
    simp [h i hi]
theorem firstK_none {p : Nat → Bool} {n d : Nat} (h : ∀ i, i < n → p ((d + i) % n) = true) : firstK p n d = none := by
  rw [firstK, List.find?_eq_none]
  intro i hi
  simp at hi
  simp [h i hi]
def propK (n : Nat) (dur ce now again : Int) (p : Nat → Bool) (d : Nat) (s : St) : Int :=
  if s.u < now then (if ce = succK p n d then 8 else 0)
  else if ce ≠ s.h ∨ s.r = true then 0
  else if ce ≠ d ∧ p d = false then 10
  else if s.u < now + dur - max again 0 then 9
  else 0
/-- the suspects as the code marks them -/
def susB (S : List Int) (ce : Int) (k : Nat) : Bool := S.any (fun s => s == (k : Int)) && !((k : Int) == ce)
def bcl (n : Nat) (p : Nat → Bool) : List Value := (List.range n).map (fun k => Value.bool (p k))
theorem bcl_len (n : Nat) (p : Nat → Bool) : (bcl n p).length = n := by simp [bcl]
theorem bcl_get {n k : Nat} (p : Nat → Bool) (h : k < n) : (bcl n p)[k]? = some (.bool (p k)) := by simp [bcl, h]

theorem ren_self {cen dur : Int} {l : List St} (h : OkL cen dur l) {i : Nat} {s : St} (hs : l[i]? = some s) : renR l i s.h s.e 0 1 = (l, if s.r = true then 8 else 0) := by
  obtain ⟨hi, hs'⟩ := List.getElem?_eq_some_iff.1 hs
  have he := h.each s (List.mem_of_getElem? hs)
  have h9 := h.hi
  have hb : (decide ((0 : Int) ≤ i) && decide ((i : Int) < l.length) && vH s.h && vL 1 && vN 0) = true := by
    simp [vH, vL, vN]; omega
  unfold renR
  rw [if_pos hb, Int.toNat_natCast, hs]
  simp only [if_pos]
  cases hr : s.r
  · have hh : heldE s s.h 0 = 0 := by simp [heldE, hr]; omega
    rw [if_pos hh]
    have hm : max s.u (0 + 1) = s.u := by omega
    rw [hm]
    obtain ⟨a, b, c, r⟩ := s
    simp only at hr ⊢
    subst hr
    refine Prod.ext ?_ rfl
    simp only
    rw [← hs']
    exact List.set_getElem_self hi
  · have hh : heldE s s.h 0 = 8 := by simp [heldE, hr]
    rw [if_neg (by rw [hh]; decide), hh]
    rfl
theorem last_at {l : List St} {i : Nat} {s : St} (hs : l[i]? = some s) : lastR l i = (s.h, s.e, s.u) := by
  simp [lastR, hs]

section
variable (w : World) (mb tb sb : Nat) (A : Option Addr) (cp : Nat) (c : CF) (l : List St) (hD : DM w mb tb sb A cp c l)
include hD
theorem isCentre_any (k : Int) : Calls Try.prog 35 #[.pointer (some ⟨mb, 0, none⟩), .int .i64 k] w fun e w' => e = .returned (.bool (inB k c.cen)) ∧ w = w' := by
  have t0 : w.cell? ⟨mb, 0, none⟩ = some (.int .i64 c.cen) := hD.top.at_ 0
  clear hD
  generalize c.cen = cen at *
  by_cases h : 0 ≤ k
  all_goals
    go_enter Try.func35, Try.ntmps35
    go_wp2
    go_ret
    first | (simp [inB, h]; done) | (simp [inB]; omega)
theorem home_any (k : Int) : Calls Try.prog 20 #[.pointer (some ⟨mb, 0, none⟩), .int .i64 k] w fun e w' => e = .returned (.int .i64 (if inB k c.cen = true then k else -1)) ∧ w = w' := by
  have HC := hid (isCentre_any w mb tb sb A cp c l hD k)
  clear hD
  generalize inB k c.cen = b at *
  cases b
  all_goals
    go_enter Try.func20, Try.ntmps20
    go_wp2_with (go_at_call 35; refine HC.out.mono ?_; rintro e w' ⟨rfl, rfl⟩)
    go_ret
    exact ⟨rfl, rfl⟩
def HolderPost (w : World) (l : List St) (k : Int) (e : Ending) (w' : World) : Prop :=
  e = .returned (.tuple #[.int .i64 (lastR l k).1, .int .i64 (lastR l k).2.1, .int .i64 (lastR l k).2.2]) ∧ Same w w'
theorem holder_any (k : Int) : Calls Try.prog 23 #[.pointer (some ⟨mb, 0, none⟩), .int .i64 k] w (HolderPost w l k) := by
  have t0 : w.cell? ⟨mb, 3, none⟩ = some (.pointer (some ⟨tb, 0, none⟩)) := hD.top.at_ 3
  have HC := hid (last_any w tb sb l hD.tab k)
  clear hD
  unfold HolderPost
  go_enter Try.func23, Try.ntmps23
  go_wp2_with (go_at_call 26; refine HC.out.mono ?_; rintro e w' ⟨rfl, hs⟩)
  go_ret3
  exact ⟨rfl, hs⟩
theorem leases_any : Calls Try.prog 25 #[.pointer (some ⟨mb, 0, none⟩)] w fun e w' => e = .returned (.pointer (some ⟨tb, 0, none⟩)) ∧ w = w' := by
  have t0 : w.cell? ⟨mb, 3, none⟩ = some (.pointer (some ⟨tb, 0, none⟩)) := hD.top.at_ 3
  clear hD
  go_enter Try.func25, Try.ntmps25
  go_wp2
  go_ret
  exact ⟨rfl, rfl⟩
set_option maxHeartbeats 1000000 in
theorem released_any (i : Nat) (s : St) (hs : l[i]? = some s) : Calls Try.prog 55 #[.pointer (some ⟨mb, 0, none⟩), .int .i64 i] w fun e w' => e = .returned (.bool s.r) ∧ DM w' mb tb sb A cp c l ∧ Keep (· = sb) w w' := by
  have t0 : w.cell? ⟨mb, 3, none⟩ = some (.pointer (some ⟨tb, 0, none⟩)) := hD.top.at_ 3
  have hL := last_any w tb sb l hD.tab i
  rw [last_at hs] at hL
  have HL := hid hL
  have hR := fun W (hk : Same w W) => ren_any W tb sb l (hD.same hk).tab i s.h s.e 0 1
  rw [ren_self hD.ok hs] at hR
  have HR := hid hR
  have HD := hid hD
  have HT := hid (fun W (hk : Same w W) => (hD.same hk).top.at_ 3)
  clear hL hR hD
  go_enter Try.func55, Try.ntmps55
  go_wp2_with fail
  refine HL.out.mono ?_
  rintro e w1 ⟨rfl, hk1⟩
  have HK1 := hid hk1
  have t1 : w1.cell? ⟨mb, 3, none⟩ = some (.pointer (some ⟨tb, 0, none⟩)) := HT.out w1 hk1
  clear t0 hk1
  cases hr : s.r
  all_goals
    rw [hr] at HR
    go_wp2_with fail
    (with_reducible refine (HR.out w1 HK1.out).mono ?_)
    rintro e w2 ⟨rfl, ht, hk2⟩
    have HT2 := hid ht
    have HK2 := hid hk2
    clear ht hk2
    go_wp2
    go_ret
    exact ⟨by first | rfl | (rw [hr]; rfl) | (simp [hr]; done), (HD.out.same HK1.out).step HK2.out HT2.out HD.out.ok, (HK1.out.wide (fun _ _ f => f.elim)).trans HK2.out (fun _ _ e => e)⟩
set_option maxRecDepth 100000 in
set_option maxHeartbeats 1000000 in
theorem successor_any (p : Nat → Bool) (Q : Option Addr) (cq : Nat) (hp : Sl w (fun i => i = sb) 1 Q l.length (bcl l.length p)) (d : Nat) (hd : d < l.length) :
    Calls Try.prog 54 #[.pointer (some ⟨mb, 0, none⟩), .int .i64 d, .slice Q l.length cq] w fun e w' => e = .returned (.int .i64 (succK p l.length d)) ∧ w = w' := by
  have t0 : w.cell? ⟨mb, 0, none⟩ = some (.int .i64 c.cen) := hD.top.at_ 0
  have h9 := hD.ok.hi
  rw [← hD.ok.len] at t0 h9
  obtain ⟨b, off, rfl, hb, _, hrow⟩ := hp.at_ (by omega)
  have HR := hid (fun k (hk : k < l.length) => hrow k _ (bcl_get p hk))
  clear hD hp hrow
  generalize l.length = n at *
  have HF := hid (fun k => firstK_some (p := p) (n := n) (d := d) (k := k))
  have HN := hid (firstK_none (p := p) (n := n) (d := d))
  have HS := hid (show ∀ k, firstK p n d = some k → succK p n d = (((d + k) % n : Nat) : Int) from fun k h => by simp [succK, h])
  have HS0 := hid (show firstK p n d = none → succK p n d = -1 from fun h => by simp [succK, h])
  generalize succK p n d = R at *
  go_enter Try.func54, Try.ntmps54
  go_wp2_with fail
  go_loop [13] (fun i => ∃ k : Nat, k ≤ n ∧ i = .int .i64 k ∧ Hid (∀ i, i < k → p ((d + i) % n) = true)) (fun i => n - (intOf i).toNat)
  case atStart => exact ⟨0, by omega, rfl, hid (fun i hi => by omega)⟩
  case round =>
    obtain ⟨k, hk, rfl, HI⟩ := hrel
    by_cases hlt : k < n
    · have hrn : (d + k) % n < n := Nat.mod_lt _ (by omega)
      have hmod : (((d : Int) + (k : Int)) % (n : Int)) = (((d + k) % n : Nat) : Int) := by rw [Int.natCast_emod]; simp
      have hc := HR.out _ hrn
      cases hpk : p ((d + k) % n)
      · have HSK := hid (HS.out k (HF.out k HI.out hlt hpk))
        rw [hpk] at hc
        generalize (d + k) % n = r at *
        go_wp2_with fail
        go_ret
        exact ⟨ret_of (int_of HSK.out.symm), rfl⟩
      · have HI2 : Hid (∀ i, i < k + 1 → p ((d + i) % n) = true) := hid (fun i hi => by
          by_cases h : i = k
          · subst h; exact hpk
          · exact HI.out i (by omega))
        rw [hpk] at hc
        generalize (d + k) % n = r at *
        go_wp2_with fail
        go_round
        case rel => exact ⟨k + 1, by omega, by go_num, HI2⟩
        case measure => simp [intOf]; omega
    · obtain rfl : k = n := by omega
      have HSN := hid (HS0.out (HN.out HI.out))
      go_wp2_with fail
      go_ret
      exact ⟨ret_of (int_of HSN.out.symm), rfl⟩
end
end Go.Proofs.Ytmkcphhgimlkgaa

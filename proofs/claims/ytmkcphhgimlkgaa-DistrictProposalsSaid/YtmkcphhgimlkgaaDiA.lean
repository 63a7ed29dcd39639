import Derived.Test.YtmkcphhgimlkgaaLeV
import Derived.Test.YtmkcphhgimlkgaaConfA
namespace Go.Proofs.Ytmkcphhgimlkgaa
open Go.RowKit

/-! ## District: what a command does -/
def doD (cen dur : Int) (l : List St) (kind thing who ep now : Int) : List St × Int :=
  if inB who cen = false then (l, 1)
  else if kind = 8 then ((acqR l thing who ep now dur).1, (acqR l thing who ep now dur).2.2)
  else if kind = 9 then renR l thing who ep now dur
  else if kind = 10 then relR l thing who ep now
  else (l, 1)
structure OkL (cen dur : Int) (l : List St) : Prop where
  len : (l.length : Int) = cen
  lo : 1 ≤ cen
  hi : cen ≤ 9
  dur : vL dur = true
  each : ∀ s ∈ l, 0 ≤ s.h ∧ s.h < cen ∧ 1 ≤ s.u ∧ s.u ≤ 1099512676352
theorem set_each {α : Type} {P : α → Prop} {l : List α} {i : Nat} {a : α} (h : ∀ s ∈ l, P s) (ha : P a) : ∀ s ∈ l.set i a, P s := by
  intro s hs
  rcases List.mem_or_eq_of_mem_set hs with h1 | h1
  · exact h s h1
  · subst h1; exact ha
theorem OkL.set {cen dur : Int} {l : List St} (h : OkL cen dur l) {i : Nat} {a : St} (ha : 0 ≤ a.h ∧ a.h < cen ∧ 1 ≤ a.u ∧ a.u ≤ 1099512676352) : OkL cen dur (l.set i a) :=
  ⟨by rw [List.length_set]; exact h.len, h.lo, h.hi, h.dur, set_each h.each ha⟩
theorem vL_in {n : Int} (h : vL n = true) : 1 ≤ n ∧ n ≤ 1048576 := by simpa [vL] using h
theorem vN_in {n : Int} (h : vN n = true) : 0 ≤ n ∧ n ≤ 1099511627776 := by simpa [vN] using h
theorem inB_in {i n : Int} (h : inB i n = true) : 0 ≤ i ∧ i < n := by simpa [inB] using h
theorem acq_okl {cen dur : Int} {l : List St} (h : OkL cen dur l) {thing who ep now : Int} (hw : inB who cen = true) : OkL cen dur (acqR l thing who ep now dur).1 := by
  have hd := vL_in h.dur
  have hw := inB_in hw
  unfold acqR
  split
  · rename_i hb
    simp only [Bool.and_eq_true] at hb
    have hn := vN_in hb.2
    split
    · split
      · split
        · exact h
        · exact h.set ⟨hw.1, hw.2, by simp only; omega, by simp only; omega⟩
      · exact h
    · exact h
  · exact h
theorem ren_okl {cen dur : Int} {l : List St} (h : OkL cen dur l) {thing who ep now : Int} : OkL cen dur (renR l thing who ep now dur).1 := by
  have hd := vL_in h.dur
  unfold renR
  split
  · rename_i hb
    simp only [Bool.and_eq_true] at hb
    have hn := vN_in hb.2
    split
    · rename_i s hs
      have he := h.each s (List.mem_of_getElem? hs)
      split
      · split
        · exact h.set ⟨he.1, he.2.1, by simp only; omega, by simp only; omega⟩
        · exact h
      · exact h
    · exact h
  · exact h
theorem rel_okl {cen dur : Int} {l : List St} (h : OkL cen dur l) {thing who ep now : Int} : OkL cen dur (relR l thing who ep now).1 := by
  unfold relR
  split
  · split
    · rename_i s hs
      have he := h.each s (List.mem_of_getElem? hs)
      split
      · split
        · exact h.set he
        · exact h
      · exact h
    · exact h
  · exact h
theorem doD_okl {cen dur : Int} {l : List St} (h : OkL cen dur l) (kind thing who ep now : Int) : OkL cen dur (doD cen dur l kind thing who ep now).1 := by
  unfold doD
  split
  · exact h
  · rename_i hw
    have hw : inB who cen = true := by simpa using hw
    split
    · exact acq_okl h hw
    · split
      · exact ren_okl h
      · split
        · exact rel_okl h
        · exact h
theorem OkL.small {cen dur : Int} {l : List St} (h : OkL cen dur l) : l.length ≤ 64 := by have := h.len; have := h.hi; omega

/-- a command's cells: kind, district, centre, epoch; the rest zero -/
def cmdV (kd ds ce ep : Int) : List Value := [.int .i64 kd, .int .i64 0, .int .i64 0, .int .i64 0, .int .i64 0, .string ⟨#[]⟩, .slice none 0 0, .int .i64 ds, .int .i64 ce, .int .i64 ep, .int .i64 0,
  .int .i64 0, .int .i64 0, .int .i64 0, .int .i64 0, .int .i64 0, .int .i64 0, .int .i64 0, .int .i64 0]

/-! ## A map of districts in memory -/
structure DM (w : World) (mb tb sb : Nat) (A : Option Addr) (cp : Nat) (c : CF) (l : List St) : Prop where
  top : Blk w mb 91 #[.int .i64 c.cen, .slice A c.dis.length cp, .int .i64 c.h3, .pointer (some ⟨tb, 0, none⟩)]
  dis : Sl w (fun i => i = sb) 1 A c.dis.length (icellsC c.dis)
  tab : IsTable w tb sb l
  ok : OkL c.cen c.h3 l
theorem DM.ne {w : World} {mb tb sb : Nat} {A : Option Addr} {cp : Nat} {c : CF} {l : List St} (h : DM w mb tb sb A cp c l) : mb ≠ sb ∧ tb ≠ sb := by
  have h1 := h.top
  have h2 := h.tab.row
  have h3 := h.tab.top
  rw [Blk] at h1 h2 h3
  refine ⟨?_, ?_⟩
  · rintro rfl
    rw [h1] at h2
    injection h2 with h2
    injection h2 with _ h2
    exact absurd h2 (by decide)
  · rintro rfl
    rw [h3] at h2
    injection h2 with h2
    injection h2 with _ h2
    exact absurd h2 (by decide)
theorem DM.step {w w' : World} {mb tb sb : Nat} {A : Option Addr} {cp : Nat} {c : CF} {l l' : List St} (h : DM w mb tb sb A cp c l) (hk : Keep (· = sb) w w') (ht : IsTable w' tb sb l') (ho : OkL c.cen c.h3 l') : DM w' mb tb sb A cp c l' :=
  ⟨h.top.keep hk h.ne.1, h.dis.keep hk (fun _ _ e => e), ht, ho⟩
theorem DM.same {w w' : World} {mb tb sb : Nat} {A : Option Addr} {cp : Nat} {c : CF} {l : List St} (h : DM w mb tb sb A cp c l) (hk : Same w w') : DM w' mb tb sb A cp c l :=
  h.step (hk.wide (fun _ _ f => f.elim)) (h.tab.keep hk (fun f => f) (fun f => f)) h.ok
end Go.Proofs.Ytmkcphhgimlkgaa

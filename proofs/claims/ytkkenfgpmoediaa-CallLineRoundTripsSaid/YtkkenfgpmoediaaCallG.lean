import Derived.Test.YtkkenfgpmoediaaCallF
import Derived.Deep.Cut
namespace Go.Proofs.Ytkkenfgpmoediaa
open Go.RowKit

/-! ## An operation on both lines -/
structure LA where
  k : Int
  cen : Int
  n : Int
  ep : Int
  tk : Int
  tree : ByteArray
def LA.cells (a : LA) : List Value := [.int .i64 a.k, .int .i64 a.cen, .int .i64 a.n, .int .i64 a.ep, .int .i64 a.tk, .string a.tree]
def stepE (s : CL) (a : LA) : Int := if a.k = 0 then assignE s a.cen a.ep a.tk else if a.k = 1 then acceptE s a.ep a.tree a.n else if a.k = 2 then sayE s a.n else if a.k = 3 then hangE s a.tk else if a.k = 4 then backE s a.ep else if a.k = 5 then closeE s a.ep else 0
def stepS (s : CL) (a : LA) : CL := if a.k = 0 then assignS s a.cen a.ep a.tk else if a.k = 1 then acceptS s a.ep a.tree a.n else if a.k = 2 then sayS s a.n else if a.k = 3 then hangS s a.tk else if a.k = 4 then backS s a.ep else if a.k = 5 then closeS s a.ep else s
def stepM (s : CL) (a : LA) : CL := if a.k = 0 then assignS s a.cen a.ep a.tk else if a.k = 1 then acceptS s a.ep a.tree a.n else if a.k = 2 then saySR s a.n else if a.k = 3 then hangS s a.tk else if a.k = 4 then backS s a.ep else if a.k = 5 then closeS s a.ep else s
def DoesPost (Av0 : Nat → Prop) (w : World) (lb : Nat) (r : Option Nat) (s' m' : CL) (b : Bool) (e : Ending) (w' : World) : Prop :=
  ∃ r' A' c' B d, e = .returned (.tuple #[.agg (m'.cells B d).toArray, .bool b]) ∧ LineAt w' lb r' A' c' s' ∧ Sl w' (fun i => (i = lb ∨ some i = r') ∨ Av0 i) 1 B m'.ans.length (icells m'.ans) ∧ Keep (fun i => i = lb ∨ some i = r) w w' ∧ (∀ g, r' = some g → r = some g ∨ w.heap.size ≤ g)
set_option maxHeartbeats 16000000 in
set_option maxRecDepth 100000 in
theorem does_any (Av0 : Nat → Prop) (w : World) (hAv0 : ∀ i, Av0 i → i < w.heap.size) (lb : Nat) (r : Option Nat) (A : Option Addr) (c : Nat) (s : CL) (h : LineAt w lb r A c s) (m : CL) (B : Option Addr) (d : Nat) (hM : Sl w (fun i => (i = lb ∨ some i = r) ∨ Av0 i) 1 B m.ans.length (icells m.ans)) (hml : m.ans.length ≤ 1000) (a : LA) :
    Calls Try.prog 14 #[.pointer (some ⟨lb, 0, none⟩), .agg (m.cells B d).toArray, .agg a.cells.toArray] w (DoesPost Av0 w lb r (stepS s a) (stepM m a) (stepE s a == stepE m a)) := by
  obtain ⟨k, cen, n, ep, tk, tree⟩ := a
  simp only [LA.cells, CL.cells]
  by_cases hk0 : k = 0
  · subst hk0
    have hk1 : Same w (((w.alloc (.cells #[.int .i64 m.call, .int .i64 m.st, .int .i64 m.since, .int .i64 m.cen, .int .i64 m.ep, .string m.name, .int .i64 m.ver, .slice B m.ans.length d] 31)).alloc (.cells #[.int .i64 0, .int .i64 cen, .int .i64 n, .int .i64 ep, .int .i64 tk, .string tree] 35)).alloc (.cells #[.int .i64 0, .int .i64 0, .int .i64 0, .int .i64 0, .int .i64 0, .string ⟨#[]⟩, .int .i64 0, .slice none 0 0] 31)) := (((Keep.refl _ w).alloc _).alloc _).alloc _
    have hE1 : stepE s ⟨0, cen, n, ep, tk, tree⟩ = assignE s cen ep tk := by simp [stepE]
    have hS1 : stepS s ⟨0, cen, n, ep, tk, tree⟩ = assignS s cen ep tk := by simp [stepS]
    have hE2 : stepE m ⟨0, cen, n, ep, tk, tree⟩ = assignE m cen ep tk := by simp [stepE]
    have hM2 : stepM m ⟨0, cen, n, ep, tk, tree⟩ = assignS m cen ep tk := by simp [stepM]
    rw [hE1, hS1, hE2, hM2]
    clear hE1 hS1 hE2 hM2
    have HL := hid (assign_any (((w.alloc (.cells #[.int .i64 m.call, .int .i64 m.st, .int .i64 m.since, .int .i64 m.cen, .int .i64 m.ep, .string m.name, .int .i64 m.ver, .slice B m.ans.length d] 31)).alloc (.cells #[.int .i64 0, .int .i64 cen, .int .i64 n, .int .i64 ep, .int .i64 tk, .string tree] 35)).alloc (.cells #[.int .i64 0, .int .i64 0, .int .i64 0, .int .i64 0, .int .i64 0, .string ⟨#[]⟩, .int .i64 0, .slice none 0 0] 31)) lb r A c s (h.same hk1) cen ep tk)
    have HR := hid (fun W Av B' d' (hM' : Sl W Av 1 B' m.ans.length (icells m.ans)) (hAv : ∀ i, Av i → i < W.heap.size) => rbind_any W Av B' d' m hM' cen ep tk)
    have hM1 := (hM.wide (Av' := fun i => ((i = lb ∨ some i = r) ∨ Av0 i) ∨ w.heap.size ≤ i) (fun i hi hs => hs.elim (fun e => e) (fun e => absurd hi (by omega)))).same hk1
    have HM1 := hid hM1
    have HK1 := hid hk1
    have hb0 := ((Blk.made w 31 #[.int .i64 m.call, .int .i64 m.st, .int .i64 m.since, .int .i64 m.cen, .int .i64 m.ep, .string m.name, .int .i64 m.ver, .slice B m.ans.length d]).alloc (.cells #[.int .i64 0, .int .i64 cen, .int .i64 n, .int .i64 ep, .int .i64 tk, .string tree] 35)).alloc (.cells #[.int .i64 0, .int .i64 0, .int .i64 0, .int .i64 0, .int .i64 0, .string ⟨#[]⟩, .int .i64 0, .slice none 0 0] 31)
    have ha0 := (Blk.made (w.alloc (.cells #[.int .i64 m.call, .int .i64 m.st, .int .i64 m.since, .int .i64 m.cen, .int .i64 m.ep, .string m.name, .int .i64 m.ver, .slice B m.ans.length d] 31)) 35 #[.int .i64 0, .int .i64 cen, .int .i64 n, .int .i64 ep, .int .i64 tk, .string tree]).alloc (.cells #[.int .i64 0, .int .i64 0, .int .i64 0, .int .i64 0, .int .i64 0, .string ⟨#[]⟩, .int .i64 0, .slice none 0 0] 31)
    have hr0 := Blk.made ((w.alloc (.cells #[.int .i64 m.call, .int .i64 m.st, .int .i64 m.since, .int .i64 m.cen, .int .i64 m.ep, .string m.name, .int .i64 m.ver, .slice B m.ans.length d] 31)).alloc (.cells #[.int .i64 0, .int .i64 cen, .int .i64 n, .int .i64 ep, .int .i64 tk, .string tree] 35)) 31 #[.int .i64 0, .int .i64 0, .int .i64 0, .int .i64 0, .int .i64 0, .string ⟨#[]⟩, .int .i64 0, .slice none 0 0]
    simp only [World.size_alloc] at ha0 hr0
    have HB0 := hid hb0
    have HAB := hid ha0
    have HR0 := hid hr0
    have hlb := h.top.lt
    have HRL := hid h.lt
    clear hk1 hM1 hb0 ha0 hr0 h hM
    have x0 : (((w.alloc (.cells #[.int .i64 m.call, .int .i64 m.st, .int .i64 m.since, .int .i64 m.cen, .int .i64 m.ep, .string m.name, .int .i64 m.ver, .slice B m.ans.length d] 31)).alloc (.cells #[.int .i64 0, .int .i64 cen, .int .i64 n, .int .i64 ep, .int .i64 tk, .string tree] 35)).alloc (.cells #[.int .i64 0, .int .i64 0, .int .i64 0, .int .i64 0, .int .i64 0, .string ⟨#[]⟩, .int .i64 0, .slice none 0 0] 31)).cell? ⟨w.heap.size, 0, none⟩ = _ := HB0.out.at_ 0
    have x1 : (((w.alloc (.cells #[.int .i64 m.call, .int .i64 m.st, .int .i64 m.since, .int .i64 m.cen, .int .i64 m.ep, .string m.name, .int .i64 m.ver, .slice B m.ans.length d] 31)).alloc (.cells #[.int .i64 0, .int .i64 cen, .int .i64 n, .int .i64 ep, .int .i64 tk, .string tree] 35)).alloc (.cells #[.int .i64 0, .int .i64 0, .int .i64 0, .int .i64 0, .int .i64 0, .string ⟨#[]⟩, .int .i64 0, .slice none 0 0] 31)).cell? ⟨w.heap.size, 1, none⟩ = _ := HB0.out.at_ 1
    have x2 : (((w.alloc (.cells #[.int .i64 m.call, .int .i64 m.st, .int .i64 m.since, .int .i64 m.cen, .int .i64 m.ep, .string m.name, .int .i64 m.ver, .slice B m.ans.length d] 31)).alloc (.cells #[.int .i64 0, .int .i64 cen, .int .i64 n, .int .i64 ep, .int .i64 tk, .string tree] 35)).alloc (.cells #[.int .i64 0, .int .i64 0, .int .i64 0, .int .i64 0, .int .i64 0, .string ⟨#[]⟩, .int .i64 0, .slice none 0 0] 31)).cell? ⟨w.heap.size, 2, none⟩ = _ := HB0.out.at_ 2
    have x3 : (((w.alloc (.cells #[.int .i64 m.call, .int .i64 m.st, .int .i64 m.since, .int .i64 m.cen, .int .i64 m.ep, .string m.name, .int .i64 m.ver, .slice B m.ans.length d] 31)).alloc (.cells #[.int .i64 0, .int .i64 cen, .int .i64 n, .int .i64 ep, .int .i64 tk, .string tree] 35)).alloc (.cells #[.int .i64 0, .int .i64 0, .int .i64 0, .int .i64 0, .int .i64 0, .string ⟨#[]⟩, .int .i64 0, .slice none 0 0] 31)).cell? ⟨w.heap.size, 3, none⟩ = _ := HB0.out.at_ 3
    have x4 : (((w.alloc (.cells #[.int .i64 m.call, .int .i64 m.st, .int .i64 m.since, .int .i64 m.cen, .int .i64 m.ep, .string m.name, .int .i64 m.ver, .slice B m.ans.length d] 31)).alloc (.cells #[.int .i64 0, .int .i64 cen, .int .i64 n, .int .i64 ep, .int .i64 tk, .string tree] 35)).alloc (.cells #[.int .i64 0, .int .i64 0, .int .i64 0, .int .i64 0, .int .i64 0, .string ⟨#[]⟩, .int .i64 0, .slice none 0 0] 31)).cell? ⟨w.heap.size, 4, none⟩ = _ := HB0.out.at_ 4
    have x5 : (((w.alloc (.cells #[.int .i64 m.call, .int .i64 m.st, .int .i64 m.since, .int .i64 m.cen, .int .i64 m.ep, .string m.name, .int .i64 m.ver, .slice B m.ans.length d] 31)).alloc (.cells #[.int .i64 0, .int .i64 cen, .int .i64 n, .int .i64 ep, .int .i64 tk, .string tree] 35)).alloc (.cells #[.int .i64 0, .int .i64 0, .int .i64 0, .int .i64 0, .int .i64 0, .string ⟨#[]⟩, .int .i64 0, .slice none 0 0] 31)).cell? ⟨w.heap.size, 5, none⟩ = _ := HB0.out.at_ 5
    have x6 : (((w.alloc (.cells #[.int .i64 m.call, .int .i64 m.st, .int .i64 m.since, .int .i64 m.cen, .int .i64 m.ep, .string m.name, .int .i64 m.ver, .slice B m.ans.length d] 31)).alloc (.cells #[.int .i64 0, .int .i64 cen, .int .i64 n, .int .i64 ep, .int .i64 tk, .string tree] 35)).alloc (.cells #[.int .i64 0, .int .i64 0, .int .i64 0, .int .i64 0, .int .i64 0, .string ⟨#[]⟩, .int .i64 0, .slice none 0 0] 31)).cell? ⟨w.heap.size, 6, none⟩ = _ := HB0.out.at_ 6
    have x7 : (((w.alloc (.cells #[.int .i64 m.call, .int .i64 m.st, .int .i64 m.since, .int .i64 m.cen, .int .i64 m.ep, .string m.name, .int .i64 m.ver, .slice B m.ans.length d] 31)).alloc (.cells #[.int .i64 0, .int .i64 cen, .int .i64 n, .int .i64 ep, .int .i64 tk, .string tree] 35)).alloc (.cells #[.int .i64 0, .int .i64 0, .int .i64 0, .int .i64 0, .int .i64 0, .string ⟨#[]⟩, .int .i64 0, .slice none 0 0] 31)).cell? ⟨w.heap.size, 7, none⟩ = _ := HB0.out.at_ 7
    have u0 : (((w.alloc (.cells #[.int .i64 m.call, .int .i64 m.st, .int .i64 m.since, .int .i64 m.cen, .int .i64 m.ep, .string m.name, .int .i64 m.ver, .slice B m.ans.length d] 31)).alloc (.cells #[.int .i64 0, .int .i64 cen, .int .i64 n, .int .i64 ep, .int .i64 tk, .string tree] 35)).alloc (.cells #[.int .i64 0, .int .i64 0, .int .i64 0, .int .i64 0, .int .i64 0, .string ⟨#[]⟩, .int .i64 0, .slice none 0 0] 31)).cell? ⟨w.heap.size + 1, 0, none⟩ = _ := HAB.out.at_ 0
    have u1 : (((w.alloc (.cells #[.int .i64 m.call, .int .i64 m.st, .int .i64 m.since, .int .i64 m.cen, .int .i64 m.ep, .string m.name, .int .i64 m.ver, .slice B m.ans.length d] 31)).alloc (.cells #[.int .i64 0, .int .i64 cen, .int .i64 n, .int .i64 ep, .int .i64 tk, .string tree] 35)).alloc (.cells #[.int .i64 0, .int .i64 0, .int .i64 0, .int .i64 0, .int .i64 0, .string ⟨#[]⟩, .int .i64 0, .slice none 0 0] 31)).cell? ⟨w.heap.size + 1, 1, none⟩ = _ := HAB.out.at_ 1
    have u2 : (((w.alloc (.cells #[.int .i64 m.call, .int .i64 m.st, .int .i64 m.since, .int .i64 m.cen, .int .i64 m.ep, .string m.name, .int .i64 m.ver, .slice B m.ans.length d] 31)).alloc (.cells #[.int .i64 0, .int .i64 cen, .int .i64 n, .int .i64 ep, .int .i64 tk, .string tree] 35)).alloc (.cells #[.int .i64 0, .int .i64 0, .int .i64 0, .int .i64 0, .int .i64 0, .string ⟨#[]⟩, .int .i64 0, .slice none 0 0] 31)).cell? ⟨w.heap.size + 1, 2, none⟩ = _ := HAB.out.at_ 2
    have u3 : (((w.alloc (.cells #[.int .i64 m.call, .int .i64 m.st, .int .i64 m.since, .int .i64 m.cen, .int .i64 m.ep, .string m.name, .int .i64 m.ver, .slice B m.ans.length d] 31)).alloc (.cells #[.int .i64 0, .int .i64 cen, .int .i64 n, .int .i64 ep, .int .i64 tk, .string tree] 35)).alloc (.cells #[.int .i64 0, .int .i64 0, .int .i64 0, .int .i64 0, .int .i64 0, .string ⟨#[]⟩, .int .i64 0, .slice none 0 0] 31)).cell? ⟨w.heap.size + 1, 3, none⟩ = _ := HAB.out.at_ 3
    have u4 : (((w.alloc (.cells #[.int .i64 m.call, .int .i64 m.st, .int .i64 m.since, .int .i64 m.cen, .int .i64 m.ep, .string m.name, .int .i64 m.ver, .slice B m.ans.length d] 31)).alloc (.cells #[.int .i64 0, .int .i64 cen, .int .i64 n, .int .i64 ep, .int .i64 tk, .string tree] 35)).alloc (.cells #[.int .i64 0, .int .i64 0, .int .i64 0, .int .i64 0, .int .i64 0, .string ⟨#[]⟩, .int .i64 0, .slice none 0 0] 31)).cell? ⟨w.heap.size + 1, 4, none⟩ = _ := HAB.out.at_ 4
    have u5 : (((w.alloc (.cells #[.int .i64 m.call, .int .i64 m.st, .int .i64 m.since, .int .i64 m.cen, .int .i64 m.ep, .string m.name, .int .i64 m.ver, .slice B m.ans.length d] 31)).alloc (.cells #[.int .i64 0, .int .i64 cen, .int .i64 n, .int .i64 ep, .int .i64 tk, .string tree] 35)).alloc (.cells #[.int .i64 0, .int .i64 0, .int .i64 0, .int .i64 0, .int .i64 0, .string ⟨#[]⟩, .int .i64 0, .slice none 0 0] 31)).cell? ⟨w.heap.size + 1, 5, none⟩ = _ := HAB.out.at_ 5
    simp at x0 x1 x2 x3 x4 x5 x6 x7 u0 u1 u2 u3 u4 u5
    generalize assignS s cen ep tk = s' at *
    generalize assignE s cen ep tk = er1 at *
    generalize assignS m cen ep tk = m' at *
    generalize assignE m cen ep tk = er2 at *
    obtain ⟨mcall, mst, msince, mcen, mep, mname, mver, mans⟩ := m'
    go_enter Try.func14, Try.ntmps14
    go_wp2_with fail
    refine HL.out.mono ?_
    rintro e w2 ⟨r2, A2, c2, rfl, hL2, hK2, hg2⟩
    have hne : ∀ i, w.heap.size ≤ i → ¬ (i = lb ∨ some i = r) := fun i hi hs => by
      rcases hs with hs | hs
      · omega
      · have := HRL.out i hs.symm; omega
    have HNE := hid hne
    have hb2 := HB0.out.keep hK2 (hne _ (by omega))
    have ha2 := HAB.out.keep hK2 (hne _ (by omega))
    have hr2 := HR0.out.keep hK2 (hne _ (by omega))
    have b0 := hb2.at_ 0
    have b1 := hb2.at_ 1
    have b2 := hb2.at_ 2
    have b3 := hb2.at_ 3
    have b4 := hb2.at_ 4
    have b5 := hb2.at_ 5
    have b6 := hb2.at_ 6
    have b7 := hb2.at_ 7
    have a0 := ha2.at_ 0
    have a1 := ha2.at_ 1
    have a2 := ha2.at_ 2
    have a3 := ha2.at_ 3
    have a4 := ha2.at_ 4
    have a5 := ha2.at_ 5
    simp at b0 b1 b2 b3 b4 b5 b6 b7 a0 a1 a2 a3 a4 a5
    have HB2 := hid hb2
    have HR2 := hid hr2
    have hz2 := hb2.lt
    have hz2' := hr2.lt
    have hg3 : ∀ g, r2 = some g → r = some g ∨ w.heap.size + 1 + 1 + 1 ≤ g := fun g e => by
      rcases hg2 g e with e | e
      · exact .inl e
      · simp only [World.size_alloc] at e; exact .inr e
    have HG3 := hid hg3
    have hML := (HM1.out.keep hK2 (fun _ _ hs => .inl (.inl hs))).wide (Av' := fun i => ((i = lb ∨ some i = r2) ∨ Av0 i) ∨ (i = w.heap.size ∨ i = w.heap.size + 1 + 1)) (fun i _ hs => by
      rcases hs with ((hs | hs) | hs) | hs
      · exact .inl (.inl (.inl hs))
      · rcases hg3 i hs.symm with e | e
        · exact .inl (.inl (.inr e.symm))
        · exact .inr (by omega)
      · exact .inl (.inr hs)
      · exact .inr (by omega))
    have hAv : ∀ i, (((i = lb ∨ some i = r2) ∨ Av0 i) ∨ (i = w.heap.size ∨ i = w.heap.size + 1 + 1)) → i < w2.heap.size := fun i hs => by
      rcases hs with ((hs | hs) | hs) | hs
      · omega
      · exact hL2.lt i hs.symm
      · have := hAv0 i hs; omega
      · omega
    have HRc := hid (HR.out w2 _ B d hML hAv)
    have HL2 := hid hL2
    have HK2 := hid (Keep.trans (S := fun i => i = lb ∨ some i = r) (HK1.out.wide (fun _ _ f => f.elim)) hK2 (fun _ _ e => e))
    have HG2 := hid (show ∀ g, r2 = some g → r = some g ∨ w.heap.size ≤ g from fun g e => by
      rcases hg2 g e with e | e
      · exact .inl e
      · simp only [World.size_alloc] at e; exact .inr (by omega))
    clear hne hb2 ha2 hr2 hML hAv hL2 hK2 hg2 hg3 HL HR x0 x1 x2 x3 x4 x5 x6 x7 u0 u1 u2 u3 u4 u5
    simp only [CL.cells] at HRc
    go_wp2_with fail
    refine HRc.out.mono ?_
    rintro e w3 ⟨B3, d3, rfl, hS3, hK3⟩
    simp only at hS3
    have hb3 := HB2.out.keep hK3 (fun f => f)
    have hr3 := HR2.out.keep hK3 (fun f => f)
    have p0 := hb3.at_ 0
    have f0 := hb3.free 0
    have q0 := hr3.at_ 0
    have g0 := hr3.free 0
    have p1 := hb3.at_ 1
    have f1 := hb3.free 1
    have q1 := hr3.at_ 1
    have g1 := hr3.free 1
    have p2 := hb3.at_ 2
    have f2 := hb3.free 2
    have q2 := hr3.at_ 2
    have g2 := hr3.free 2
    have p3 := hb3.at_ 3
    have f3 := hb3.free 3
    have q3 := hr3.at_ 3
    have g3 := hr3.free 3
    have p4 := hb3.at_ 4
    have f4 := hb3.free 4
    have q4 := hr3.at_ 4
    have g4 := hr3.free 4
    have p5 := hb3.at_ 5
    have f5 := hb3.free 5
    have q5 := hr3.at_ 5
    have g5 := hr3.free 5
    have p6 := hb3.at_ 6
    have f6 := hb3.free 6
    have q6 := hr3.at_ 6
    have g6 := hr3.free 6
    have p7 := hb3.at_ 7
    have f7 := hb3.free 7
    have q7 := hr3.at_ 7
    have g7 := hr3.free 7
    simp at p0 p1 p2 p3 p4 p5 p6 p7 q0 q1 q2 q3 q4 q5 q6 q7
    have HB3 := hid hb3
    have HR3 := hid hr3
    have HS3 := hid hS3
    have HK3 := hid hK3
    have hz3 := hb3.lt
    have hz3' := hr3.lt
    clear hb3 hr3 hS3 hK3 HRc b0 b1 b2 b3 b4 b5 b6 b7 a0 a1 a2 a3 a4 a5
    simp only [CL.cells]
    go_upto_region 21 with fail
    have hkA := (((((((((Keep.refl (· = w.heap.size) w3).put 0 (.int .i64 mcall)).put 1 (.int .i64 mst)).put 2 (.int .i64 msince)).put 3 (.int .i64 mcen)).put 4 (.int .i64 mep)).put 5 (.string mname)).put 6 (.int .i64 mver)).put 7 (.slice B3 mans.length d3))
    have hrA := HR3.out.keep hkA (by omega)
    have hbA := ((((((((HB3.out.put 0 (.int .i64 mcall)).put 1 (.int .i64 mst)).put 2 (.int .i64 msince)).put 3 (.int .i64 mcen)).put 4 (.int .i64 mep)).put 5 (.string mname)).put 6 (.int .i64 mver)).put 7 (.slice B3 mans.length d3))
    have HSA := hid (HS3.out.keep hkA (fun i hi hs => .inr (.inl hs)))
    generalize ((((((((w3.setCell ⟨w.heap.size, 0, none⟩ (.int .i64 mcall)).setCell ⟨w.heap.size, 1, none⟩ (.int .i64 mst)).setCell ⟨w.heap.size, 2, none⟩ (.int .i64 msince)).setCell ⟨w.heap.size, 3, none⟩ (.int .i64 mcen)).setCell ⟨w.heap.size, 4, none⟩ (.int .i64 mep)).setCell ⟨w.heap.size, 5, none⟩ (.string mname)).setCell ⟨w.heap.size, 6, none⟩ (.int .i64 mver)).setCell ⟨w.heap.size, 7, none⟩ (.slice B3 mans.length d3)) = wA at *
    clear p0 p1 p2 p3 p4 p5 p6 p7 f0 f1 f2 f3 f4 f5 f6 f7 q0 q1 q2 q3 q4 q5 q6 q7 g0 g1 g2 g3 g4 g5 g6 g7
    have p0 := hbA.at_ 0
    have q0 := hrA.at_ 0
    have g0 := hrA.free 0
    have p1 := hbA.at_ 1
    have q1 := hrA.at_ 1
    have g1 := hrA.free 1
    have p2 := hbA.at_ 2
    have q2 := hrA.at_ 2
    have g2 := hrA.free 2
    have p3 := hbA.at_ 3
    have q3 := hrA.at_ 3
    have g3 := hrA.free 3
    have p4 := hbA.at_ 4
    have q4 := hrA.at_ 4
    have g4 := hrA.free 4
    have p5 := hbA.at_ 5
    have q5 := hrA.at_ 5
    have g5 := hrA.free 5
    have p6 := hbA.at_ 6
    have q6 := hrA.at_ 6
    have g6 := hrA.free 6
    have p7 := hbA.at_ 7
    have q7 := hrA.at_ 7
    have g7 := hrA.free 7
    simp at p0 p1 p2 p3 p4 p5 p6 p7 q0 q1 q2 q3 q4 q5 q6 q7
    have HRA := hid hrA
    have hzA := hrA.lt
    clear hrA hbA
    go_wp2_with fail
    have hkB := (((((((((Keep.refl (· = w.heap.size + 1 + 1) wA).put 0 (.int .i64 mcall)).put 1 (.int .i64 mst)).put 2 (.int .i64 msince)).put 3 (.int .i64 mcen)).put 4 (.int .i64 mep)).put 5 (.string mname)).put 6 (.int .i64 mver)).put 7 (.slice B3 mans.length d3))
    have hrB := ((((((((HRA.out.put 0 (.int .i64 mcall)).put 1 (.int .i64 mst)).put 2 (.int .i64 msince)).put 3 (.int .i64 mcen)).put 4 (.int .i64 mep)).put 5 (.string mname)).put 6 (.int .i64 mver)).put 7 (.slice B3 mans.length d3))
    have hkC := (hkA.wide (T := fun i => i = w.heap.size ∨ i = w.heap.size + 1 + 1) (fun _ _ e => .inl e)).trans (hkB.wide (T := fun i => i = w.heap.size ∨ i = w.heap.size + 1 + 1) (fun _ _ e => .inr e)) (fun _ _ e => e)
    generalize ((((((((wA.setCell ⟨w.heap.size + 1 + 1, 0, none⟩ (.int .i64 mcall)).setCell ⟨w.heap.size + 1 + 1, 1, none⟩ (.int .i64 mst)).setCell ⟨w.heap.size + 1 + 1, 2, none⟩ (.int .i64 msince)).setCell ⟨w.heap.size + 1 + 1, 3, none⟩ (.int .i64 mcen)).setCell ⟨w.heap.size + 1 + 1, 4, none⟩ (.int .i64 mep)).setCell ⟨w.heap.size + 1 + 1, 5, none⟩ (.string mname)).setCell ⟨w.heap.size + 1 + 1, 6, none⟩ (.int .i64 mver)).setCell ⟨w.heap.size + 1 + 1, 7, none⟩ (.slice B3 mans.length d3)) = WW at hkB hrB hkC ⊢
    have v0 := hrB.at_ 0
    have v1 := hrB.at_ 1
    have v2 := hrB.at_ 2
    have v3 := hrB.at_ 3
    have v4 := hrB.at_ 4
    have v5 := hrB.at_ 5
    have v6 := hrB.at_ 6
    have v7 := hrB.at_ 7
    simp at v0 v1 v2 v3 v4 v5 v6 v7
    have hsz3 := HK3.out.size
    refine bodyPost_ret (v := .tuple #[.agg #[.int .i64 mcall, .int .i64 mst, .int .i64 msince, .int .i64 mcen, .int .i64 mep, .string mname, .int .i64 mver, .slice B3 mans.length d3], .bool (er1 == er2)]) (by simp [results, Try.results14, go_sem, v0, v1, v2, v3, v4, v5, v6, v7]) rfl ⟨r2, A2, c2, B3, d3, by simp [CL.cells], ?_, ?_, ?_, HG2.out⟩
    · exact (HL2.out.same HK3.out).keep hkC (fun hs => by omega) (fun g e hs => by
        rcases HG3.out g e with e2 | e2
        · have := HRL.out g e2; omega
        · omega)
    · exact (HS3.out.keep hkC (fun i hi hs => .inr hs)).wide (fun _ _ e => .inl e)
    · exact (HK2.out.then HK3.out).trans hkC (fun i hi hs => by omega)
  · have gk0 : (k == (0 : Int)) = false := by simpa using hk0
    by_cases hk1 : k = 1
    · subst hk1
      have hk1 : Same w (((w.alloc (.cells #[.int .i64 m.call, .int .i64 m.st, .int .i64 m.since, .int .i64 m.cen, .int .i64 m.ep, .string m.name, .int .i64 m.ver, .slice B m.ans.length d] 31)).alloc (.cells #[.int .i64 1, .int .i64 cen, .int .i64 n, .int .i64 ep, .int .i64 tk, .string tree] 35)).alloc (.cells #[.int .i64 0, .int .i64 0, .int .i64 0, .int .i64 0, .int .i64 0, .string ⟨#[]⟩, .int .i64 0, .slice none 0 0] 31)) := (((Keep.refl _ w).alloc _).alloc _).alloc _
      have hE1 : stepE s ⟨1, cen, n, ep, tk, tree⟩ = acceptE s ep tree n := by simp [stepE]
      have hS1 : stepS s ⟨1, cen, n, ep, tk, tree⟩ = acceptS s ep tree n := by simp [stepS]
      have hE2 : stepE m ⟨1, cen, n, ep, tk, tree⟩ = acceptE m ep tree n := by simp [stepE]
      have hM2 : stepM m ⟨1, cen, n, ep, tk, tree⟩ = acceptS m ep tree n := by simp [stepM]
      rw [hE1, hS1, hE2, hM2]
      clear hE1 hS1 hE2 hM2
      have HL := hid (accept_any (((w.alloc (.cells #[.int .i64 m.call, .int .i64 m.st, .int .i64 m.since, .int .i64 m.cen, .int .i64 m.ep, .string m.name, .int .i64 m.ver, .slice B m.ans.length d] 31)).alloc (.cells #[.int .i64 1, .int .i64 cen, .int .i64 n, .int .i64 ep, .int .i64 tk, .string tree] 35)).alloc (.cells #[.int .i64 0, .int .i64 0, .int .i64 0, .int .i64 0, .int .i64 0, .string ⟨#[]⟩, .int .i64 0, .slice none 0 0] 31)) lb r A c s (h.same hk1) ep tree n)
      have HR := hid (fun W Av B' d' (hM' : Sl W Av 1 B' m.ans.length (icells m.ans)) (hAv : ∀ i, Av i → i < W.heap.size) => ranswer_any W Av B' d' m hM' ep tree n)
      have hM1 := (hM.wide (Av' := fun i => ((i = lb ∨ some i = r) ∨ Av0 i) ∨ w.heap.size ≤ i) (fun i hi hs => hs.elim (fun e => e) (fun e => absurd hi (by omega)))).same hk1
      have HM1 := hid hM1
      have HK1 := hid hk1
      have hb0 := ((Blk.made w 31 #[.int .i64 m.call, .int .i64 m.st, .int .i64 m.since, .int .i64 m.cen, .int .i64 m.ep, .string m.name, .int .i64 m.ver, .slice B m.ans.length d]).alloc (.cells #[.int .i64 1, .int .i64 cen, .int .i64 n, .int .i64 ep, .int .i64 tk, .string tree] 35)).alloc (.cells #[.int .i64 0, .int .i64 0, .int .i64 0, .int .i64 0, .int .i64 0, .string ⟨#[]⟩, .int .i64 0, .slice none 0 0] 31)
      have ha0 := (Blk.made (w.alloc (.cells #[.int .i64 m.call, .int .i64 m.st, .int .i64 m.since, .int .i64 m.cen, .int .i64 m.ep, .string m.name, .int .i64 m.ver, .slice B m.ans.length d] 31)) 35 #[.int .i64 1, .int .i64 cen, .int .i64 n, .int .i64 ep, .int .i64 tk, .string tree]).alloc (.cells #[.int .i64 0, .int .i64 0, .int .i64 0, .int .i64 0, .int .i64 0, .string ⟨#[]⟩, .int .i64 0, .slice none 0 0] 31)
      have hr0 := Blk.made ((w.alloc (.cells #[.int .i64 m.call, .int .i64 m.st, .int .i64 m.since, .int .i64 m.cen, .int .i64 m.ep, .string m.name, .int .i64 m.ver, .slice B m.ans.length d] 31)).alloc (.cells #[.int .i64 1, .int .i64 cen, .int .i64 n, .int .i64 ep, .int .i64 tk, .string tree] 35)) 31 #[.int .i64 0, .int .i64 0, .int .i64 0, .int .i64 0, .int .i64 0, .string ⟨#[]⟩, .int .i64 0, .slice none 0 0]
      simp only [World.size_alloc] at ha0 hr0
      have HB0 := hid hb0
      have HAB := hid ha0
      have HR0 := hid hr0
      have hlb := h.top.lt
      have HRL := hid h.lt
      clear hk1 hM1 hb0 ha0 hr0 h hM
      have x0 : (((w.alloc (.cells #[.int .i64 m.call, .int .i64 m.st, .int .i64 m.since, .int .i64 m.cen, .int .i64 m.ep, .string m.name, .int .i64 m.ver, .slice B m.ans.length d] 31)).alloc (.cells #[.int .i64 1, .int .i64 cen, .int .i64 n, .int .i64 ep, .int .i64 tk, .string tree] 35)).alloc (.cells #[.int .i64 0, .int .i64 0, .int .i64 0, .int .i64 0, .int .i64 0, .string ⟨#[]⟩, .int .i64 0, .slice none 0 0] 31)).cell? ⟨w.heap.size, 0, none⟩ = _ := HB0.out.at_ 0
      have x1 : (((w.alloc (.cells #[.int .i64 m.call, .int .i64 m.st, .int .i64 m.since, .int .i64 m.cen, .int .i64 m.ep, .string m.name, .int .i64 m.ver, .slice B m.ans.length d] 31)).alloc (.cells #[.int .i64 1, .int .i64 cen, .int .i64 n, .int .i64 ep, .int .i64 tk, .string tree] 35)).alloc (.cells #[.int .i64 0, .int .i64 0, .int .i64 0, .int .i64 0, .int .i64 0, .string ⟨#[]⟩, .int .i64 0, .slice none 0 0] 31)).cell? ⟨w.heap.size, 1, none⟩ = _ := HB0.out.at_ 1
      have x2 : (((w.alloc (.cells #[.int .i64 m.call, .int .i64 m.st, .int .i64 m.since, .int .i64 m.cen, .int .i64 m.ep, .string m.name, .int .i64 m.ver, .slice B m.ans.length d] 31)).alloc (.cells #[.int .i64 1, .int .i64 cen, .int .i64 n, .int .i64 ep, .int .i64 tk, .string tree] 35)).alloc (.cells #[.int .i64 0, .int .i64 0, .int .i64 0, .int .i64 0, .int .i64 0, .string ⟨#[]⟩, .int .i64 0, .slice none 0 0] 31)).cell? ⟨w.heap.size, 2, none⟩ = _ := HB0.out.at_ 2
      have x3 : (((w.alloc (.cells #[.int .i64 m.call, .int .i64 m.st, .int .i64 m.since, .int .i64 m.cen, .int .i64 m.ep, .string m.name, .int .i64 m.ver, .slice B m.ans.length d] 31)).alloc (.cells #[.int .i64 1, .int .i64 cen, .int .i64 n, .int .i64 ep, .int .i64 tk, .string tree] 35)).alloc (.cells #[.int .i64 0, .int .i64 0, .int .i64 0, .int .i64 0, .int .i64 0, .string ⟨#[]⟩, .int .i64 0, .slice none 0 0] 31)).cell? ⟨w.heap.size, 3, none⟩ = _ := HB0.out.at_ 3
      have x4 : (((w.alloc (.cells #[.int .i64 m.call, .int .i64 m.st, .int .i64 m.since, .int .i64 m.cen, .int .i64 m.ep, .string m.name, .int .i64 m.ver, .slice B m.ans.length d] 31)).alloc (.cells #[.int .i64 1, .int .i64 cen, .int .i64 n, .int .i64 ep, .int .i64 tk, .string tree] 35)).alloc (.cells #[.int .i64 0, .int .i64 0, .int .i64 0, .int .i64 0, .int .i64 0, .string ⟨#[]⟩, .int .i64 0, .slice none 0 0] 31)).cell? ⟨w.heap.size, 4, none⟩ = _ := HB0.out.at_ 4
      have x5 : (((w.alloc (.cells #[.int .i64 m.call, .int .i64 m.st, .int .i64 m.since, .int .i64 m.cen, .int .i64 m.ep, .string m.name, .int .i64 m.ver, .slice B m.ans.length d] 31)).alloc (.cells #[.int .i64 1, .int .i64 cen, .int .i64 n, .int .i64 ep, .int .i64 tk, .string tree] 35)).alloc (.cells #[.int .i64 0, .int .i64 0, .int .i64 0, .int .i64 0, .int .i64 0, .string ⟨#[]⟩, .int .i64 0, .slice none 0 0] 31)).cell? ⟨w.heap.size, 5, none⟩ = _ := HB0.out.at_ 5
      have x6 : (((w.alloc (.cells #[.int .i64 m.call, .int .i64 m.st, .int .i64 m.since, .int .i64 m.cen, .int .i64 m.ep, .string m.name, .int .i64 m.ver, .slice B m.ans.length d] 31)).alloc (.cells #[.int .i64 1, .int .i64 cen, .int .i64 n, .int .i64 ep, .int .i64 tk, .string tree] 35)).alloc (.cells #[.int .i64 0, .int .i64 0, .int .i64 0, .int .i64 0, .int .i64 0, .string ⟨#[]⟩, .int .i64 0, .slice none 0 0] 31)).cell? ⟨w.heap.size, 6, none⟩ = _ := HB0.out.at_ 6
      have x7 : (((w.alloc (.cells #[.int .i64 m.call, .int .i64 m.st, .int .i64 m.since, .int .i64 m.cen, .int .i64 m.ep, .string m.name, .int .i64 m.ver, .slice B m.ans.length d] 31)).alloc (.cells #[.int .i64 1, .int .i64 cen, .int .i64 n, .int .i64 ep, .int .i64 tk, .string tree] 35)).alloc (.cells #[.int .i64 0, .int .i64 0, .int .i64 0, .int .i64 0, .int .i64 0, .string ⟨#[]⟩, .int .i64 0, .slice none 0 0] 31)).cell? ⟨w.heap.size, 7, none⟩ = _ := HB0.out.at_ 7
      have u0 : (((w.alloc (.cells #[.int .i64 m.call, .int .i64 m.st, .int .i64 m.since, .int .i64 m.cen, .int .i64 m.ep, .string m.name, .int .i64 m.ver, .slice B m.ans.length d] 31)).alloc (.cells #[.int .i64 1, .int .i64 cen, .int .i64 n, .int .i64 ep, .int .i64 tk, .string tree] 35)).alloc (.cells #[.int .i64 0, .int .i64 0, .int .i64 0, .int .i64 0, .int .i64 0, .string ⟨#[]⟩, .int .i64 0, .slice none 0 0] 31)).cell? ⟨w.heap.size + 1, 0, none⟩ = _ := HAB.out.at_ 0
      have u1 : (((w.alloc (.cells #[.int .i64 m.call, .int .i64 m.st, .int .i64 m.since, .int .i64 m.cen, .int .i64 m.ep, .string m.name, .int .i64 m.ver, .slice B m.ans.length d] 31)).alloc (.cells #[.int .i64 1, .int .i64 cen, .int .i64 n, .int .i64 ep, .int .i64 tk, .string tree] 35)).alloc (.cells #[.int .i64 0, .int .i64 0, .int .i64 0, .int .i64 0, .int .i64 0, .string ⟨#[]⟩, .int .i64 0, .slice none 0 0] 31)).cell? ⟨w.heap.size + 1, 1, none⟩ = _ := HAB.out.at_ 1
      have u2 : (((w.alloc (.cells #[.int .i64 m.call, .int .i64 m.st, .int .i64 m.since, .int .i64 m.cen, .int .i64 m.ep, .string m.name, .int .i64 m.ver, .slice B m.ans.length d] 31)).alloc (.cells #[.int .i64 1, .int .i64 cen, .int .i64 n, .int .i64 ep, .int .i64 tk, .string tree] 35)).alloc (.cells #[.int .i64 0, .int .i64 0, .int .i64 0, .int .i64 0, .int .i64 0, .string ⟨#[]⟩, .int .i64 0, .slice none 0 0] 31)).cell? ⟨w.heap.size + 1, 2, none⟩ = _ := HAB.out.at_ 2
      have u3 : (((w.alloc (.cells #[.int .i64 m.call, .int .i64 m.st, .int .i64 m.since, .int .i64 m.cen, .int .i64 m.ep, .string m.name, .int .i64 m.ver, .slice B m.ans.length d] 31)).alloc (.cells #[.int .i64 1, .int .i64 cen, .int .i64 n, .int .i64 ep, .int .i64 tk, .string tree] 35)).alloc (.cells #[.int .i64 0, .int .i64 0, .int .i64 0, .int .i64 0, .int .i64 0, .string ⟨#[]⟩, .int .i64 0, .slice none 0 0] 31)).cell? ⟨w.heap.size + 1, 3, none⟩ = _ := HAB.out.at_ 3
      have u4 : (((w.alloc (.cells #[.int .i64 m.call, .int .i64 m.st, .int .i64 m.since, .int .i64 m.cen, .int .i64 m.ep, .string m.name, .int .i64 m.ver, .slice B m.ans.length d] 31)).alloc (.cells #[.int .i64 1, .int .i64 cen, .int .i64 n, .int .i64 ep, .int .i64 tk, .string tree] 35)).alloc (.cells #[.int .i64 0, .int .i64 0, .int .i64 0, .int .i64 0, .int .i64 0, .string ⟨#[]⟩, .int .i64 0, .slice none 0 0] 31)).cell? ⟨w.heap.size + 1, 4, none⟩ = _ := HAB.out.at_ 4
      have u5 : (((w.alloc (.cells #[.int .i64 m.call, .int .i64 m.st, .int .i64 m.since, .int .i64 m.cen, .int .i64 m.ep, .string m.name, .int .i64 m.ver, .slice B m.ans.length d] 31)).alloc (.cells #[.int .i64 1, .int .i64 cen, .int .i64 n, .int .i64 ep, .int .i64 tk, .string tree] 35)).alloc (.cells #[.int .i64 0, .int .i64 0, .int .i64 0, .int .i64 0, .int .i64 0, .string ⟨#[]⟩, .int .i64 0, .slice none 0 0] 31)).cell? ⟨w.heap.size + 1, 5, none⟩ = _ := HAB.out.at_ 5
      simp at x0 x1 x2 x3 x4 x5 x6 x7 u0 u1 u2 u3 u4 u5
      generalize acceptS s ep tree n = s' at *
      generalize acceptE s ep tree n = er1 at *
      generalize acceptS m ep tree n = m' at *
      generalize acceptE m ep tree n = er2 at *
      obtain ⟨mcall, mst, msince, mcen, mep, mname, mver, mans⟩ := m'
      go_enter Try.func14, Try.ntmps14
      go_wp2_with fail
      refine HL.out.mono ?_
      rintro e w2 ⟨r2, A2, c2, rfl, hL2, hK2, hg2⟩
      have hne : ∀ i, w.heap.size ≤ i → ¬ (i = lb ∨ some i = r) := fun i hi hs => by
        rcases hs with hs | hs
        · omega
        · have := HRL.out i hs.symm; omega
      have HNE := hid hne
      have hb2 := HB0.out.keep hK2 (hne _ (by omega))
      have ha2 := HAB.out.keep hK2 (hne _ (by omega))
      have hr2 := HR0.out.keep hK2 (hne _ (by omega))
      have b0 := hb2.at_ 0
      have b1 := hb2.at_ 1
      have b2 := hb2.at_ 2
      have b3 := hb2.at_ 3
      have b4 := hb2.at_ 4
      have b5 := hb2.at_ 5
      have b6 := hb2.at_ 6
      have b7 := hb2.at_ 7
      have a0 := ha2.at_ 0
      have a1 := ha2.at_ 1
      have a2 := ha2.at_ 2
      have a3 := ha2.at_ 3
      have a4 := ha2.at_ 4
      have a5 := ha2.at_ 5
      simp at b0 b1 b2 b3 b4 b5 b6 b7 a0 a1 a2 a3 a4 a5
      have HB2 := hid hb2
      have HR2 := hid hr2
      have hz2 := hb2.lt
      have hz2' := hr2.lt
      have hg3 : ∀ g, r2 = some g → r = some g ∨ w.heap.size + 1 + 1 + 1 ≤ g := fun g e => by
        rcases hg2 g e with e | e
        · exact .inl e
        · simp only [World.size_alloc] at e; exact .inr e
      have HG3 := hid hg3
      have hML := (HM1.out.keep hK2 (fun _ _ hs => .inl (.inl hs))).wide (Av' := fun i => ((i = lb ∨ some i = r2) ∨ Av0 i) ∨ (i = w.heap.size ∨ i = w.heap.size + 1 + 1)) (fun i _ hs => by
        rcases hs with ((hs | hs) | hs) | hs
        · exact .inl (.inl (.inl hs))
        · rcases hg3 i hs.symm with e | e
          · exact .inl (.inl (.inr e.symm))
          · exact .inr (by omega)
        · exact .inl (.inr hs)
        · exact .inr (by omega))
      have hAv : ∀ i, (((i = lb ∨ some i = r2) ∨ Av0 i) ∨ (i = w.heap.size ∨ i = w.heap.size + 1 + 1)) → i < w2.heap.size := fun i hs => by
        rcases hs with ((hs | hs) | hs) | hs
        · omega
        · exact hL2.lt i hs.symm
        · have := hAv0 i hs; omega
        · omega
      have HRc := hid (HR.out w2 _ B d hML hAv)
      have HL2 := hid hL2
      have HK2 := hid (Keep.trans (S := fun i => i = lb ∨ some i = r) (HK1.out.wide (fun _ _ f => f.elim)) hK2 (fun _ _ e => e))
      have HG2 := hid (show ∀ g, r2 = some g → r = some g ∨ w.heap.size ≤ g from fun g e => by
        rcases hg2 g e with e | e
        · exact .inl e
        · simp only [World.size_alloc] at e; exact .inr (by omega))
      clear hne hb2 ha2 hr2 hML hAv hL2 hK2 hg2 hg3 HL HR x0 x1 x2 x3 x4 x5 x6 x7 u0 u1 u2 u3 u4 u5
      simp only [CL.cells] at HRc
      go_wp2_with fail
      refine HRc.out.mono ?_
      rintro e w3 ⟨B3, d3, rfl, hS3, hK3⟩
      simp only at hS3
      have hb3 := HB2.out.keep hK3 (fun f => f)
      have hr3 := HR2.out.keep hK3 (fun f => f)
      have p0 := hb3.at_ 0
      have f0 := hb3.free 0
      have q0 := hr3.at_ 0
      have g0 := hr3.free 0
      have p1 := hb3.at_ 1
      have f1 := hb3.free 1
      have q1 := hr3.at_ 1
      have g1 := hr3.free 1
      have p2 := hb3.at_ 2
      have f2 := hb3.free 2
      have q2 := hr3.at_ 2
      have g2 := hr3.free 2
      have p3 := hb3.at_ 3
      have f3 := hb3.free 3
      have q3 := hr3.at_ 3
      have g3 := hr3.free 3
      have p4 := hb3.at_ 4
      have f4 := hb3.free 4
      have q4 := hr3.at_ 4
      have g4 := hr3.free 4
      have p5 := hb3.at_ 5
      have f5 := hb3.free 5
      have q5 := hr3.at_ 5
      have g5 := hr3.free 5
      have p6 := hb3.at_ 6
      have f6 := hb3.free 6
      have q6 := hr3.at_ 6
      have g6 := hr3.free 6
      have p7 := hb3.at_ 7
      have f7 := hb3.free 7
      have q7 := hr3.at_ 7
      have g7 := hr3.free 7
      simp at p0 p1 p2 p3 p4 p5 p6 p7 q0 q1 q2 q3 q4 q5 q6 q7
      have HB3 := hid hb3
      have HR3 := hid hr3
      have HS3 := hid hS3
      have HK3 := hid hK3
      have hz3 := hb3.lt
      have hz3' := hr3.lt
      clear hb3 hr3 hS3 hK3 HRc b0 b1 b2 b3 b4 b5 b6 b7 a0 a1 a2 a3 a4 a5
      simp only [CL.cells]
      go_upto_region 21 with fail
      have hkA := (((((((((Keep.refl (· = w.heap.size) w3).put 0 (.int .i64 mcall)).put 1 (.int .i64 mst)).put 2 (.int .i64 msince)).put 3 (.int .i64 mcen)).put 4 (.int .i64 mep)).put 5 (.string mname)).put 6 (.int .i64 mver)).put 7 (.slice B3 mans.length d3))
      have hrA := HR3.out.keep hkA (by omega)
      have hbA := ((((((((HB3.out.put 0 (.int .i64 mcall)).put 1 (.int .i64 mst)).put 2 (.int .i64 msince)).put 3 (.int .i64 mcen)).put 4 (.int .i64 mep)).put 5 (.string mname)).put 6 (.int .i64 mver)).put 7 (.slice B3 mans.length d3))
      have HSA := hid (HS3.out.keep hkA (fun i hi hs => .inr (.inl hs)))
      generalize ((((((((w3.setCell ⟨w.heap.size, 0, none⟩ (.int .i64 mcall)).setCell ⟨w.heap.size, 1, none⟩ (.int .i64 mst)).setCell ⟨w.heap.size, 2, none⟩ (.int .i64 msince)).setCell ⟨w.heap.size, 3, none⟩ (.int .i64 mcen)).setCell ⟨w.heap.size, 4, none⟩ (.int .i64 mep)).setCell ⟨w.heap.size, 5, none⟩ (.string mname)).setCell ⟨w.heap.size, 6, none⟩ (.int .i64 mver)).setCell ⟨w.heap.size, 7, none⟩ (.slice B3 mans.length d3)) = wA at *
      clear p0 p1 p2 p3 p4 p5 p6 p7 f0 f1 f2 f3 f4 f5 f6 f7 q0 q1 q2 q3 q4 q5 q6 q7 g0 g1 g2 g3 g4 g5 g6 g7
      have p0 := hbA.at_ 0
      have q0 := hrA.at_ 0
      have g0 := hrA.free 0
      have p1 := hbA.at_ 1
      have q1 := hrA.at_ 1
      have g1 := hrA.free 1
      have p2 := hbA.at_ 2
      have q2 := hrA.at_ 2
      have g2 := hrA.free 2
      have p3 := hbA.at_ 3
      have q3 := hrA.at_ 3
      have g3 := hrA.free 3
      have p4 := hbA.at_ 4
      have q4 := hrA.at_ 4
      have g4 := hrA.free 4
      have p5 := hbA.at_ 5
      have q5 := hrA.at_ 5
      have g5 := hrA.free 5
      have p6 := hbA.at_ 6
      have q6 := hrA.at_ 6
      have g6 := hrA.free 6
      have p7 := hbA.at_ 7
      have q7 := hrA.at_ 7
      have g7 := hrA.free 7
      simp at p0 p1 p2 p3 p4 p5 p6 p7 q0 q1 q2 q3 q4 q5 q6 q7
      have HRA := hid hrA
      have hzA := hrA.lt
      clear hrA hbA
      go_wp2_with fail
      have hkB := (((((((((Keep.refl (· = w.heap.size + 1 + 1) wA).put 0 (.int .i64 mcall)).put 1 (.int .i64 mst)).put 2 (.int .i64 msince)).put 3 (.int .i64 mcen)).put 4 (.int .i64 mep)).put 5 (.string mname)).put 6 (.int .i64 mver)).put 7 (.slice B3 mans.length d3))
      have hrB := ((((((((HRA.out.put 0 (.int .i64 mcall)).put 1 (.int .i64 mst)).put 2 (.int .i64 msince)).put 3 (.int .i64 mcen)).put 4 (.int .i64 mep)).put 5 (.string mname)).put 6 (.int .i64 mver)).put 7 (.slice B3 mans.length d3))
      have hkC := (hkA.wide (T := fun i => i = w.heap.size ∨ i = w.heap.size + 1 + 1) (fun _ _ e => .inl e)).trans (hkB.wide (T := fun i => i = w.heap.size ∨ i = w.heap.size + 1 + 1) (fun _ _ e => .inr e)) (fun _ _ e => e)
      generalize ((((((((wA.setCell ⟨w.heap.size + 1 + 1, 0, none⟩ (.int .i64 mcall)).setCell ⟨w.heap.size + 1 + 1, 1, none⟩ (.int .i64 mst)).setCell ⟨w.heap.size + 1 + 1, 2, none⟩ (.int .i64 msince)).setCell ⟨w.heap.size + 1 + 1, 3, none⟩ (.int .i64 mcen)).setCell ⟨w.heap.size + 1 + 1, 4, none⟩ (.int .i64 mep)).setCell ⟨w.heap.size + 1 + 1, 5, none⟩ (.string mname)).setCell ⟨w.heap.size + 1 + 1, 6, none⟩ (.int .i64 mver)).setCell ⟨w.heap.size + 1 + 1, 7, none⟩ (.slice B3 mans.length d3)) = WW at hkB hrB hkC ⊢
      have v0 := hrB.at_ 0
      have v1 := hrB.at_ 1
      have v2 := hrB.at_ 2
      have v3 := hrB.at_ 3
      have v4 := hrB.at_ 4
      have v5 := hrB.at_ 5
      have v6 := hrB.at_ 6
      have v7 := hrB.at_ 7
      simp at v0 v1 v2 v3 v4 v5 v6 v7
      have hsz3 := HK3.out.size
      refine bodyPost_ret (v := .tuple #[.agg #[.int .i64 mcall, .int .i64 mst, .int .i64 msince, .int .i64 mcen, .int .i64 mep, .string mname, .int .i64 mver, .slice B3 mans.length d3], .bool (er1 == er2)]) (by simp [results, Try.results14, go_sem, v0, v1, v2, v3, v4, v5, v6, v7]) rfl ⟨r2, A2, c2, B3, d3, by simp [CL.cells], ?_, ?_, ?_, HG2.out⟩
      · exact (HL2.out.same HK3.out).keep hkC (fun hs => by omega) (fun g e hs => by
          rcases HG3.out g e with e2 | e2
          · have := HRL.out g e2; omega
          · omega)
      · exact (HS3.out.keep hkC (fun i hi hs => .inr hs)).wide (fun _ _ e => .inl e)
      · exact (HK2.out.then HK3.out).trans hkC (fun i hi hs => by omega)
    · have gk1 : (k == (1 : Int)) = false := by simpa using hk1
      by_cases hk2 : k = 2
      · subst hk2
        have hk1 : Same w (((w.alloc (.cells #[.int .i64 m.call, .int .i64 m.st, .int .i64 m.since, .int .i64 m.cen, .int .i64 m.ep, .string m.name, .int .i64 m.ver, .slice B m.ans.length d] 31)).alloc (.cells #[.int .i64 2, .int .i64 cen, .int .i64 n, .int .i64 ep, .int .i64 tk, .string tree] 35)).alloc (.cells #[.int .i64 0, .int .i64 0, .int .i64 0, .int .i64 0, .int .i64 0, .string ⟨#[]⟩, .int .i64 0, .slice none 0 0] 31)) := (((Keep.refl _ w).alloc _).alloc _).alloc _
        have hE1 : stepE s ⟨2, cen, n, ep, tk, tree⟩ = sayE s n := by simp [stepE]
        have hS1 : stepS s ⟨2, cen, n, ep, tk, tree⟩ = sayS s n := by simp [stepS]
        have hE2 : stepE m ⟨2, cen, n, ep, tk, tree⟩ = sayE m n := by simp [stepE]
        have hM2 : stepM m ⟨2, cen, n, ep, tk, tree⟩ = saySR m n := by simp [stepM]
        rw [hE1, hS1, hE2, hM2]
        clear hE1 hS1 hE2 hM2
        have HL := hid (say_any (((w.alloc (.cells #[.int .i64 m.call, .int .i64 m.st, .int .i64 m.since, .int .i64 m.cen, .int .i64 m.ep, .string m.name, .int .i64 m.ver, .slice B m.ans.length d] 31)).alloc (.cells #[.int .i64 2, .int .i64 cen, .int .i64 n, .int .i64 ep, .int .i64 tk, .string tree] 35)).alloc (.cells #[.int .i64 0, .int .i64 0, .int .i64 0, .int .i64 0, .int .i64 0, .string ⟨#[]⟩, .int .i64 0, .slice none 0 0] 31)) lb r A c s (h.same hk1) n)
        have HR := hid (fun W Av B' d' (hM' : Sl W Av 1 B' m.ans.length (icells m.ans)) (hAv : ∀ i, Av i → i < W.heap.size) => rsay_any W Av B' d' m hM' n hml hAv)
        have hM1 := (hM.wide (Av' := fun i => ((i = lb ∨ some i = r) ∨ Av0 i) ∨ w.heap.size ≤ i) (fun i hi hs => hs.elim (fun e => e) (fun e => absurd hi (by omega)))).same hk1
        have HM1 := hid hM1
        have HK1 := hid hk1
        have hb0 := ((Blk.made w 31 #[.int .i64 m.call, .int .i64 m.st, .int .i64 m.since, .int .i64 m.cen, .int .i64 m.ep, .string m.name, .int .i64 m.ver, .slice B m.ans.length d]).alloc (.cells #[.int .i64 2, .int .i64 cen, .int .i64 n, .int .i64 ep, .int .i64 tk, .string tree] 35)).alloc (.cells #[.int .i64 0, .int .i64 0, .int .i64 0, .int .i64 0, .int .i64 0, .string ⟨#[]⟩, .int .i64 0, .slice none 0 0] 31)
        have ha0 := (Blk.made (w.alloc (.cells #[.int .i64 m.call, .int .i64 m.st, .int .i64 m.since, .int .i64 m.cen, .int .i64 m.ep, .string m.name, .int .i64 m.ver, .slice B m.ans.length d] 31)) 35 #[.int .i64 2, .int .i64 cen, .int .i64 n, .int .i64 ep, .int .i64 tk, .string tree]).alloc (.cells #[.int .i64 0, .int .i64 0, .int .i64 0, .int .i64 0, .int .i64 0, .string ⟨#[]⟩, .int .i64 0, .slice none 0 0] 31)
        have hr0 := Blk.made ((w.alloc (.cells #[.int .i64 m.call, .int .i64 m.st, .int .i64 m.since, .int .i64 m.cen, .int .i64 m.ep, .string m.name, .int .i64 m.ver, .slice B m.ans.length d] 31)).alloc (.cells #[.int .i64 2, .int .i64 cen, .int .i64 n, .int .i64 ep, .int .i64 tk, .string tree] 35)) 31 #[.int .i64 0, .int .i64 0, .int .i64 0, .int .i64 0, .int .i64 0, .string ⟨#[]⟩, .int .i64 0, .slice none 0 0]
        simp only [World.size_alloc] at ha0 hr0
        have HB0 := hid hb0
        have HAB := hid ha0
        have HR0 := hid hr0
        have hlb := h.top.lt
        have HRL := hid h.lt
        clear hk1 hM1 hb0 ha0 hr0 h hM
        have x0 : (((w.alloc (.cells #[.int .i64 m.call, .int .i64 m.st, .int .i64 m.since, .int .i64 m.cen, .int .i64 m.ep, .string m.name, .int .i64 m.ver, .slice B m.ans.length d] 31)).alloc (.cells #[.int .i64 2, .int .i64 cen, .int .i64 n, .int .i64 ep, .int .i64 tk, .string tree] 35)).alloc (.cells #[.int .i64 0, .int .i64 0, .int .i64 0, .int .i64 0, .int .i64 0, .string ⟨#[]⟩, .int .i64 0, .slice none 0 0] 31)).cell? ⟨w.heap.size, 0, none⟩ = _ := HB0.out.at_ 0
        have x1 : (((w.alloc (.cells #[.int .i64 m.call, .int .i64 m.st, .int .i64 m.since, .int .i64 m.cen, .int .i64 m.ep, .string m.name, .int .i64 m.ver, .slice B m.ans.length d] 31)).alloc (.cells #[.int .i64 2, .int .i64 cen, .int .i64 n, .int .i64 ep, .int .i64 tk, .string tree] 35)).alloc (.cells #[.int .i64 0, .int .i64 0, .int .i64 0, .int .i64 0, .int .i64 0, .string ⟨#[]⟩, .int .i64 0, .slice none 0 0] 31)).cell? ⟨w.heap.size, 1, none⟩ = _ := HB0.out.at_ 1
        have x2 : (((w.alloc (.cells #[.int .i64 m.call, .int .i64 m.st, .int .i64 m.since, .int .i64 m.cen, .int .i64 m.ep, .string m.name, .int .i64 m.ver, .slice B m.ans.length d] 31)).alloc (.cells #[.int .i64 2, .int .i64 cen, .int .i64 n, .int .i64 ep, .int .i64 tk, .string tree] 35)).alloc (.cells #[.int .i64 0, .int .i64 0, .int .i64 0, .int .i64 0, .int .i64 0, .string ⟨#[]⟩, .int .i64 0, .slice none 0 0] 31)).cell? ⟨w.heap.size, 2, none⟩ = _ := HB0.out.at_ 2
        have x3 : (((w.alloc (.cells #[.int .i64 m.call, .int .i64 m.st, .int .i64 m.since, .int .i64 m.cen, .int .i64 m.ep, .string m.name, .int .i64 m.ver, .slice B m.ans.length d] 31)).alloc (.cells #[.int .i64 2, .int .i64 cen, .int .i64 n, .int .i64 ep, .int .i64 tk, .string tree] 35)).alloc (.cells #[.int .i64 0, .int .i64 0, .int .i64 0, .int .i64 0, .int .i64 0, .string ⟨#[]⟩, .int .i64 0, .slice none 0 0] 31)).cell? ⟨w.heap.size, 3, none⟩ = _ := HB0.out.at_ 3
        have x4 : (((w.alloc (.cells #[.int .i64 m.call, .int .i64 m.st, .int .i64 m.since, .int .i64 m.cen, .int .i64 m.ep, .string m.name, .int .i64 m.ver, .slice B m.ans.length d] 31)).alloc (.cells #[.int .i64 2, .int .i64 cen, .int .i64 n, .int .i64 ep, .int .i64 tk, .string tree] 35)).alloc (.cells #[.int .i64 0, .int .i64 0, .int .i64 0, .int .i64 0, .int .i64 0, .string ⟨#[]⟩, .int .i64 0, .slice none 0 0] 31)).cell? ⟨w.heap.size, 4, none⟩ = _ := HB0.out.at_ 4
        have x5 : (((w.alloc (.cells #[.int .i64 m.call, .int .i64 m.st, .int .i64 m.since, .int .i64 m.cen, .int .i64 m.ep, .string m.name, .int .i64 m.ver, .slice B m.ans.length d] 31)).alloc (.cells #[.int .i64 2, .int .i64 cen, .int .i64 n, .int .i64 ep, .int .i64 tk, .string tree] 35)).alloc (.cells #[.int .i64 0, .int .i64 0, .int .i64 0, .int .i64 0, .int .i64 0, .string ⟨#[]⟩, .int .i64 0, .slice none 0 0] 31)).cell? ⟨w.heap.size, 5, none⟩ = _ := HB0.out.at_ 5
        have x6 : (((w.alloc (.cells #[.int .i64 m.call, .int .i64 m.st, .int .i64 m.since, .int .i64 m.cen, .int .i64 m.ep, .string m.name, .int .i64 m.ver, .slice B m.ans.length d] 31)).alloc (.cells #[.int .i64 2, .int .i64 cen, .int .i64 n, .int .i64 ep, .int .i64 tk, .string tree] 35)).alloc (.cells #[.int .i64 0, .int .i64 0, .int .i64 0, .int .i64 0, .int .i64 0, .string ⟨#[]⟩, .int .i64 0, .slice none 0 0] 31)).cell? ⟨w.heap.size, 6, none⟩ = _ := HB0.out.at_ 6
        have x7 : (((w.alloc (.cells #[.int .i64 m.call, .int .i64 m.st, .int .i64 m.since, .int .i64 m.cen, .int .i64 m.ep, .string m.name, .int .i64 m.ver, .slice B m.ans.length d] 31)).alloc (.cells #[.int .i64 2, .int .i64 cen, .int .i64 n, .int .i64 ep, .int .i64 tk, .string tree] 35)).alloc (.cells #[.int .i64 0, .int .i64 0, .int .i64 0, .int .i64 0, .int .i64 0, .string ⟨#[]⟩, .int .i64 0, .slice none 0 0] 31)).cell? ⟨w.heap.size, 7, none⟩ = _ := HB0.out.at_ 7
        have u0 : (((w.alloc (.cells #[.int .i64 m.call, .int .i64 m.st, .int .i64 m.since, .int .i64 m.cen, .int .i64 m.ep, .string m.name, .int .i64 m.ver, .slice B m.ans.length d] 31)).alloc (.cells #[.int .i64 2, .int .i64 cen, .int .i64 n, .int .i64 ep, .int .i64 tk, .string tree] 35)).alloc (.cells #[.int .i64 0, .int .i64 0, .int .i64 0, .int .i64 0, .int .i64 0, .string ⟨#[]⟩, .int .i64 0, .slice none 0 0] 31)).cell? ⟨w.heap.size + 1, 0, none⟩ = _ := HAB.out.at_ 0
        have u1 : (((w.alloc (.cells #[.int .i64 m.call, .int .i64 m.st, .int .i64 m.since, .int .i64 m.cen, .int .i64 m.ep, .string m.name, .int .i64 m.ver, .slice B m.ans.length d] 31)).alloc (.cells #[.int .i64 2, .int .i64 cen, .int .i64 n, .int .i64 ep, .int .i64 tk, .string tree] 35)).alloc (.cells #[.int .i64 0, .int .i64 0, .int .i64 0, .int .i64 0, .int .i64 0, .string ⟨#[]⟩, .int .i64 0, .slice none 0 0] 31)).cell? ⟨w.heap.size + 1, 1, none⟩ = _ := HAB.out.at_ 1
        have u2 : (((w.alloc (.cells #[.int .i64 m.call, .int .i64 m.st, .int .i64 m.since, .int .i64 m.cen, .int .i64 m.ep, .string m.name, .int .i64 m.ver, .slice B m.ans.length d] 31)).alloc (.cells #[.int .i64 2, .int .i64 cen, .int .i64 n, .int .i64 ep, .int .i64 tk, .string tree] 35)).alloc (.cells #[.int .i64 0, .int .i64 0, .int .i64 0, .int .i64 0, .int .i64 0, .string ⟨#[]⟩, .int .i64 0, .slice none 0 0] 31)).cell? ⟨w.heap.size + 1, 2, none⟩ = _ := HAB.out.at_ 2
        have u3 : (((w.alloc (.cells #[.int .i64 m.call, .int .i64 m.st, .int .i64 m.since, .int .i64 m.cen, .int .i64 m.ep, .string m.name, .int .i64 m.ver, .slice B m.ans.length d] 31)).alloc (.cells #[.int .i64 2, .int .i64 cen, .int .i64 n, .int .i64 ep, .int .i64 tk, .string tree] 35)).alloc (.cells #[.int .i64 0, .int .i64 0, .int .i64 0, .int .i64 0, .int .i64 0, .string ⟨#[]⟩, .int .i64 0, .slice none 0 0] 31)).cell? ⟨w.heap.size + 1, 3, none⟩ = _ := HAB.out.at_ 3
        have u4 : (((w.alloc (.cells #[.int .i64 m.call, .int .i64 m.st, .int .i64 m.since, .int .i64 m.cen, .int .i64 m.ep, .string m.name, .int .i64 m.ver, .slice B m.ans.length d] 31)).alloc (.cells #[.int .i64 2, .int .i64 cen, .int .i64 n, .int .i64 ep, .int .i64 tk, .string tree] 35)).alloc (.cells #[.int .i64 0, .int .i64 0, .int .i64 0, .int .i64 0, .int .i64 0, .string ⟨#[]⟩, .int .i64 0, .slice none 0 0] 31)).cell? ⟨w.heap.size + 1, 4, none⟩ = _ := HAB.out.at_ 4
        have u5 : (((w.alloc (.cells #[.int .i64 m.call, .int .i64 m.st, .int .i64 m.since, .int .i64 m.cen, .int .i64 m.ep, .string m.name, .int .i64 m.ver, .slice B m.ans.length d] 31)).alloc (.cells #[.int .i64 2, .int .i64 cen, .int .i64 n, .int .i64 ep, .int .i64 tk, .string tree] 35)).alloc (.cells #[.int .i64 0, .int .i64 0, .int .i64 0, .int .i64 0, .int .i64 0, .string ⟨#[]⟩, .int .i64 0, .slice none 0 0] 31)).cell? ⟨w.heap.size + 1, 5, none⟩ = _ := HAB.out.at_ 5
        simp at x0 x1 x2 x3 x4 x5 x6 x7 u0 u1 u2 u3 u4 u5
        generalize sayS s n = s' at *
        generalize sayE s n = er1 at *
        generalize saySR m n = m' at *
        generalize sayE m n = er2 at *
        obtain ⟨mcall, mst, msince, mcen, mep, mname, mver, mans⟩ := m'
        go_enter Try.func14, Try.ntmps14
        go_wp2_with fail
        refine HL.out.mono ?_
        rintro e w2 ⟨r2, A2, c2, rfl, hL2, hK2, hg2⟩
        have hne : ∀ i, w.heap.size ≤ i → ¬ (i = lb ∨ some i = r) := fun i hi hs => by
          rcases hs with hs | hs
          · omega
          · have := HRL.out i hs.symm; omega
        have HNE := hid hne
        have hb2 := HB0.out.keep hK2 (hne _ (by omega))
        have ha2 := HAB.out.keep hK2 (hne _ (by omega))
        have hr2 := HR0.out.keep hK2 (hne _ (by omega))
        have b0 := hb2.at_ 0
        have b1 := hb2.at_ 1
        have b2 := hb2.at_ 2
        have b3 := hb2.at_ 3
        have b4 := hb2.at_ 4
        have b5 := hb2.at_ 5
        have b6 := hb2.at_ 6
        have b7 := hb2.at_ 7
        have a0 := ha2.at_ 0
        have a1 := ha2.at_ 1
        have a2 := ha2.at_ 2
        have a3 := ha2.at_ 3
        have a4 := ha2.at_ 4
        have a5 := ha2.at_ 5
        simp at b0 b1 b2 b3 b4 b5 b6 b7 a0 a1 a2 a3 a4 a5
        have HB2 := hid hb2
        have HR2 := hid hr2
        have hz2 := hb2.lt
        have hz2' := hr2.lt
        have hg3 : ∀ g, r2 = some g → r = some g ∨ w.heap.size + 1 + 1 + 1 ≤ g := fun g e => by
          rcases hg2 g e with e | e
          · exact .inl e
          · simp only [World.size_alloc] at e; exact .inr e
        have HG3 := hid hg3
        have hML := (HM1.out.keep hK2 (fun _ _ hs => .inl (.inl hs))).wide (Av' := fun i => ((i = lb ∨ some i = r2) ∨ Av0 i) ∨ (i = w.heap.size ∨ i = w.heap.size + 1 + 1)) (fun i _ hs => by
          rcases hs with ((hs | hs) | hs) | hs
          · exact .inl (.inl (.inl hs))
          · rcases hg3 i hs.symm with e | e
            · exact .inl (.inl (.inr e.symm))
            · exact .inr (by omega)
          · exact .inl (.inr hs)
          · exact .inr (by omega))
        have hAv : ∀ i, (((i = lb ∨ some i = r2) ∨ Av0 i) ∨ (i = w.heap.size ∨ i = w.heap.size + 1 + 1)) → i < w2.heap.size := fun i hs => by
          rcases hs with ((hs | hs) | hs) | hs
          · omega
          · exact hL2.lt i hs.symm
          · have := hAv0 i hs; omega
          · omega
        have HRc := hid (HR.out w2 _ B d hML hAv)
        have HL2 := hid hL2
        have HK2 := hid (Keep.trans (S := fun i => i = lb ∨ some i = r) (HK1.out.wide (fun _ _ f => f.elim)) hK2 (fun _ _ e => e))
        have HG2 := hid (show ∀ g, r2 = some g → r = some g ∨ w.heap.size ≤ g from fun g e => by
          rcases hg2 g e with e | e
          · exact .inl e
          · simp only [World.size_alloc] at e; exact .inr (by omega))
        clear hne hb2 ha2 hr2 hML hAv hL2 hK2 hg2 hg3 HL HR x0 x1 x2 x3 x4 x5 x6 x7 u0 u1 u2 u3 u4 u5
        simp only [CL.cells] at HRc
        go_wp2_with fail
        refine HRc.out.mono ?_
        rintro e w3 ⟨B3, d3, rfl, hS3, hK3⟩
        simp only at hS3
        have hb3 := HB2.out.keep hK3 (fun f => f)
        have hr3 := HR2.out.keep hK3 (fun f => f)
        have p0 := hb3.at_ 0
        have f0 := hb3.free 0
        have q0 := hr3.at_ 0
        have g0 := hr3.free 0
        have p1 := hb3.at_ 1
        have f1 := hb3.free 1
        have q1 := hr3.at_ 1
        have g1 := hr3.free 1
        have p2 := hb3.at_ 2
        have f2 := hb3.free 2
        have q2 := hr3.at_ 2
        have g2 := hr3.free 2
        have p3 := hb3.at_ 3
        have f3 := hb3.free 3
        have q3 := hr3.at_ 3
        have g3 := hr3.free 3
        have p4 := hb3.at_ 4
        have f4 := hb3.free 4
        have q4 := hr3.at_ 4
        have g4 := hr3.free 4
        have p5 := hb3.at_ 5
        have f5 := hb3.free 5
        have q5 := hr3.at_ 5
        have g5 := hr3.free 5
        have p6 := hb3.at_ 6
        have f6 := hb3.free 6
        have q6 := hr3.at_ 6
        have g6 := hr3.free 6
        have p7 := hb3.at_ 7
        have f7 := hb3.free 7
        have q7 := hr3.at_ 7
        have g7 := hr3.free 7
        simp at p0 p1 p2 p3 p4 p5 p6 p7 q0 q1 q2 q3 q4 q5 q6 q7
        have HB3 := hid hb3
        have HR3 := hid hr3
        have HS3 := hid hS3
        have HK3 := hid hK3
        have hz3 := hb3.lt
        have hz3' := hr3.lt
        clear hb3 hr3 hS3 hK3 HRc b0 b1 b2 b3 b4 b5 b6 b7 a0 a1 a2 a3 a4 a5
        simp only [CL.cells]
        go_upto_region 21 with fail
        have hkA := (((((((((Keep.refl (· = w.heap.size) w3).put 0 (.int .i64 mcall)).put 1 (.int .i64 mst)).put 2 (.int .i64 msince)).put 3 (.int .i64 mcen)).put 4 (.int .i64 mep)).put 5 (.string mname)).put 6 (.int .i64 mver)).put 7 (.slice B3 mans.length d3))
        have hrA := HR3.out.keep hkA (by omega)
        have hbA := ((((((((HB3.out.put 0 (.int .i64 mcall)).put 1 (.int .i64 mst)).put 2 (.int .i64 msince)).put 3 (.int .i64 mcen)).put 4 (.int .i64 mep)).put 5 (.string mname)).put 6 (.int .i64 mver)).put 7 (.slice B3 mans.length d3))
        have HSA := hid (HS3.out.keep hkA (fun i hi hs => .inr (.inl hs)))
        generalize ((((((((w3.setCell ⟨w.heap.size, 0, none⟩ (.int .i64 mcall)).setCell ⟨w.heap.size, 1, none⟩ (.int .i64 mst)).setCell ⟨w.heap.size, 2, none⟩ (.int .i64 msince)).setCell ⟨w.heap.size, 3, none⟩ (.int .i64 mcen)).setCell ⟨w.heap.size, 4, none⟩ (.int .i64 mep)).setCell ⟨w.heap.size, 5, none⟩ (.string mname)).setCell ⟨w.heap.size, 6, none⟩ (.int .i64 mver)).setCell ⟨w.heap.size, 7, none⟩ (.slice B3 mans.length d3)) = wA at *
        clear p0 p1 p2 p3 p4 p5 p6 p7 f0 f1 f2 f3 f4 f5 f6 f7 q0 q1 q2 q3 q4 q5 q6 q7 g0 g1 g2 g3 g4 g5 g6 g7
        have p0 := hbA.at_ 0
        have q0 := hrA.at_ 0
        have g0 := hrA.free 0
        have p1 := hbA.at_ 1
        have q1 := hrA.at_ 1
        have g1 := hrA.free 1
        have p2 := hbA.at_ 2
        have q2 := hrA.at_ 2
        have g2 := hrA.free 2
        have p3 := hbA.at_ 3
        have q3 := hrA.at_ 3
        have g3 := hrA.free 3
        have p4 := hbA.at_ 4
        have q4 := hrA.at_ 4
        have g4 := hrA.free 4
        have p5 := hbA.at_ 5
        have q5 := hrA.at_ 5
        have g5 := hrA.free 5
        have p6 := hbA.at_ 6
        have q6 := hrA.at_ 6
        have g6 := hrA.free 6
        have p7 := hbA.at_ 7
        have q7 := hrA.at_ 7
        have g7 := hrA.free 7
        simp at p0 p1 p2 p3 p4 p5 p6 p7 q0 q1 q2 q3 q4 q5 q6 q7
        have HRA := hid hrA
        have hzA := hrA.lt
        clear hrA hbA
        go_wp2_with fail
        have hkB := (((((((((Keep.refl (· = w.heap.size + 1 + 1) wA).put 0 (.int .i64 mcall)).put 1 (.int .i64 mst)).put 2 (.int .i64 msince)).put 3 (.int .i64 mcen)).put 4 (.int .i64 mep)).put 5 (.string mname)).put 6 (.int .i64 mver)).put 7 (.slice B3 mans.length d3))
        have hrB := ((((((((HRA.out.put 0 (.int .i64 mcall)).put 1 (.int .i64 mst)).put 2 (.int .i64 msince)).put 3 (.int .i64 mcen)).put 4 (.int .i64 mep)).put 5 (.string mname)).put 6 (.int .i64 mver)).put 7 (.slice B3 mans.length d3))
        have hkC := (hkA.wide (T := fun i => i = w.heap.size ∨ i = w.heap.size + 1 + 1) (fun _ _ e => .inl e)).trans (hkB.wide (T := fun i => i = w.heap.size ∨ i = w.heap.size + 1 + 1) (fun _ _ e => .inr e)) (fun _ _ e => e)
        generalize ((((((((wA.setCell ⟨w.heap.size + 1 + 1, 0, none⟩ (.int .i64 mcall)).setCell ⟨w.heap.size + 1 + 1, 1, none⟩ (.int .i64 mst)).setCell ⟨w.heap.size + 1 + 1, 2, none⟩ (.int .i64 msince)).setCell ⟨w.heap.size + 1 + 1, 3, none⟩ (.int .i64 mcen)).setCell ⟨w.heap.size + 1 + 1, 4, none⟩ (.int .i64 mep)).setCell ⟨w.heap.size + 1 + 1, 5, none⟩ (.string mname)).setCell ⟨w.heap.size + 1 + 1, 6, none⟩ (.int .i64 mver)).setCell ⟨w.heap.size + 1 + 1, 7, none⟩ (.slice B3 mans.length d3)) = WW at hkB hrB hkC ⊢
        have v0 := hrB.at_ 0
        have v1 := hrB.at_ 1
        have v2 := hrB.at_ 2
        have v3 := hrB.at_ 3
        have v4 := hrB.at_ 4
        have v5 := hrB.at_ 5
        have v6 := hrB.at_ 6
        have v7 := hrB.at_ 7
        simp at v0 v1 v2 v3 v4 v5 v6 v7
        have hsz3 := HK3.out.size
        refine bodyPost_ret (v := .tuple #[.agg #[.int .i64 mcall, .int .i64 mst, .int .i64 msince, .int .i64 mcen, .int .i64 mep, .string mname, .int .i64 mver, .slice B3 mans.length d3], .bool (er1 == er2)]) (by simp [results, Try.results14, go_sem, v0, v1, v2, v3, v4, v5, v6, v7]) rfl ⟨r2, A2, c2, B3, d3, by simp [CL.cells], ?_, ?_, ?_, HG2.out⟩
        · exact (HL2.out.same HK3.out).keep hkC (fun hs => by omega) (fun g e hs => by
            rcases HG3.out g e with e2 | e2
            · have := HRL.out g e2; omega
            · omega)
        · exact (HS3.out.keep hkC (fun i hi hs => .inr hs)).wide (fun _ _ e => .inl e)
        · exact (HK2.out.then HK3.out).trans hkC (fun i hi hs => by omega)
      · have gk2 : (k == (2 : Int)) = false := by simpa using hk2
        by_cases hk3 : k = 3
        · subst hk3
          have hk1 : Same w (((w.alloc (.cells #[.int .i64 m.call, .int .i64 m.st, .int .i64 m.since, .int .i64 m.cen, .int .i64 m.ep, .string m.name, .int .i64 m.ver, .slice B m.ans.length d] 31)).alloc (.cells #[.int .i64 3, .int .i64 cen, .int .i64 n, .int .i64 ep, .int .i64 tk, .string tree] 35)).alloc (.cells #[.int .i64 0, .int .i64 0, .int .i64 0, .int .i64 0, .int .i64 0, .string ⟨#[]⟩, .int .i64 0, .slice none 0 0] 31)) := (((Keep.refl _ w).alloc _).alloc _).alloc _
          have hE1 : stepE s ⟨3, cen, n, ep, tk, tree⟩ = hangE s tk := by simp [stepE]
          have hS1 : stepS s ⟨3, cen, n, ep, tk, tree⟩ = hangS s tk := by simp [stepS]
          have hE2 : stepE m ⟨3, cen, n, ep, tk, tree⟩ = hangE m tk := by simp [stepE]
          have hM2 : stepM m ⟨3, cen, n, ep, tk, tree⟩ = hangS m tk := by simp [stepM]
          rw [hE1, hS1, hE2, hM2]
          clear hE1 hS1 hE2 hM2
          have HL := hid (hang_any (((w.alloc (.cells #[.int .i64 m.call, .int .i64 m.st, .int .i64 m.since, .int .i64 m.cen, .int .i64 m.ep, .string m.name, .int .i64 m.ver, .slice B m.ans.length d] 31)).alloc (.cells #[.int .i64 3, .int .i64 cen, .int .i64 n, .int .i64 ep, .int .i64 tk, .string tree] 35)).alloc (.cells #[.int .i64 0, .int .i64 0, .int .i64 0, .int .i64 0, .int .i64 0, .string ⟨#[]⟩, .int .i64 0, .slice none 0 0] 31)) lb r A c s (h.same hk1) tk)
          have HR := hid (fun W Av B' d' (hM' : Sl W Av 1 B' m.ans.length (icells m.ans)) (hAv : ∀ i, Av i → i < W.heap.size) => rhang_any W Av B' d' m hM' tk)
          have hM1 := (hM.wide (Av' := fun i => ((i = lb ∨ some i = r) ∨ Av0 i) ∨ w.heap.size ≤ i) (fun i hi hs => hs.elim (fun e => e) (fun e => absurd hi (by omega)))).same hk1
          have HM1 := hid hM1
          have HK1 := hid hk1
          have hb0 := ((Blk.made w 31 #[.int .i64 m.call, .int .i64 m.st, .int .i64 m.since, .int .i64 m.cen, .int .i64 m.ep, .string m.name, .int .i64 m.ver, .slice B m.ans.length d]).alloc (.cells #[.int .i64 3, .int .i64 cen, .int .i64 n, .int .i64 ep, .int .i64 tk, .string tree] 35)).alloc (.cells #[.int .i64 0, .int .i64 0, .int .i64 0, .int .i64 0, .int .i64 0, .string ⟨#[]⟩, .int .i64 0, .slice none 0 0] 31)
          have ha0 := (Blk.made (w.alloc (.cells #[.int .i64 m.call, .int .i64 m.st, .int .i64 m.since, .int .i64 m.cen, .int .i64 m.ep, .string m.name, .int .i64 m.ver, .slice B m.ans.length d] 31)) 35 #[.int .i64 3, .int .i64 cen, .int .i64 n, .int .i64 ep, .int .i64 tk, .string tree]).alloc (.cells #[.int .i64 0, .int .i64 0, .int .i64 0, .int .i64 0, .int .i64 0, .string ⟨#[]⟩, .int .i64 0, .slice none 0 0] 31)
          have hr0 := Blk.made ((w.alloc (.cells #[.int .i64 m.call, .int .i64 m.st, .int .i64 m.since, .int .i64 m.cen, .int .i64 m.ep, .string m.name, .int .i64 m.ver, .slice B m.ans.length d] 31)).alloc (.cells #[.int .i64 3, .int .i64 cen, .int .i64 n, .int .i64 ep, .int .i64 tk, .string tree] 35)) 31 #[.int .i64 0, .int .i64 0, .int .i64 0, .int .i64 0, .int .i64 0, .string ⟨#[]⟩, .int .i64 0, .slice none 0 0]
          simp only [World.size_alloc] at ha0 hr0
          have HB0 := hid hb0
          have HAB := hid ha0
          have HR0 := hid hr0
          have hlb := h.top.lt
          have HRL := hid h.lt
          clear hk1 hM1 hb0 ha0 hr0 h hM
          have x0 : (((w.alloc (.cells #[.int .i64 m.call, .int .i64 m.st, .int .i64 m.since, .int .i64 m.cen, .int .i64 m.ep, .string m.name, .int .i64 m.ver, .slice B m.ans.length d] 31)).alloc (.cells #[.int .i64 3, .int .i64 cen, .int .i64 n, .int .i64 ep, .int .i64 tk, .string tree] 35)).alloc (.cells #[.int .i64 0, .int .i64 0, .int .i64 0, .int .i64 0, .int .i64 0, .string ⟨#[]⟩, .int .i64 0, .slice none 0 0] 31)).cell? ⟨w.heap.size, 0, none⟩ = _ := HB0.out.at_ 0
          have x1 : (((w.alloc (.cells #[.int .i64 m.call, .int .i64 m.st, .int .i64 m.since, .int .i64 m.cen, .int .i64 m.ep, .string m.name, .int .i64 m.ver, .slice B m.ans.length d] 31)).alloc (.cells #[.int .i64 3, .int .i64 cen, .int .i64 n, .int .i64 ep, .int .i64 tk, .string tree] 35)).alloc (.cells #[.int .i64 0, .int .i64 0, .int .i64 0, .int .i64 0, .int .i64 0, .string ⟨#[]⟩, .int .i64 0, .slice none 0 0] 31)).cell? ⟨w.heap.size, 1, none⟩ = _ := HB0.out.at_ 1
          have x2 : (((w.alloc (.cells #[.int .i64 m.call, .int .i64 m.st, .int .i64 m.since, .int .i64 m.cen, .int .i64 m.ep, .string m.name, .int .i64 m.ver, .slice B m.ans.length d] 31)).alloc (.cells #[.int .i64 3, .int .i64 cen, .int .i64 n, .int .i64 ep, .int .i64 tk, .string tree] 35)).alloc (.cells #[.int .i64 0, .int .i64 0, .int .i64 0, .int .i64 0, .int .i64 0, .string ⟨#[]⟩, .int .i64 0, .slice none 0 0] 31)).cell? ⟨w.heap.size, 2, none⟩ = _ := HB0.out.at_ 2
          have x3 : (((w.alloc (.cells #[.int .i64 m.call, .int .i64 m.st, .int .i64 m.since, .int .i64 m.cen, .int .i64 m.ep, .string m.name, .int .i64 m.ver, .slice B m.ans.length d] 31)).alloc (.cells #[.int .i64 3, .int .i64 cen, .int .i64 n, .int .i64 ep, .int .i64 tk, .string tree] 35)).alloc (.cells #[.int .i64 0, .int .i64 0, .int .i64 0, .int .i64 0, .int .i64 0, .string ⟨#[]⟩, .int .i64 0, .slice none 0 0] 31)).cell? ⟨w.heap.size, 3, none⟩ = _ := HB0.out.at_ 3
          have x4 : (((w.alloc (.cells #[.int .i64 m.call, .int .i64 m.st, .int .i64 m.since, .int .i64 m.cen, .int .i64 m.ep, .string m.name, .int .i64 m.ver, .slice B m.ans.length d] 31)).alloc (.cells #[.int .i64 3, .int .i64 cen, .int .i64 n, .int .i64 ep, .int .i64 tk, .string tree] 35)).alloc (.cells #[.int .i64 0, .int .i64 0, .int .i64 0, .int .i64 0, .int .i64 0, .string ⟨#[]⟩, .int .i64 0, .slice none 0 0] 31)).cell? ⟨w.heap.size, 4, none⟩ = _ := HB0.out.at_ 4
          have x5 : (((w.alloc (.cells #[.int .i64 m.call, .int .i64 m.st, .int .i64 m.since, .int .i64 m.cen, .int .i64 m.ep, .string m.name, .int .i64 m.ver, .slice B m.ans.length d] 31)).alloc (.cells #[.int .i64 3, .int .i64 cen, .int .i64 n, .int .i64 ep, .int .i64 tk, .string tree] 35)).alloc (.cells #[.int .i64 0, .int .i64 0, .int .i64 0, .int .i64 0, .int .i64 0, .string ⟨#[]⟩, .int .i64 0, .slice none 0 0] 31)).cell? ⟨w.heap.size, 5, none⟩ = _ := HB0.out.at_ 5
          have x6 : (((w.alloc (.cells #[.int .i64 m.call, .int .i64 m.st, .int .i64 m.since, .int .i64 m.cen, .int .i64 m.ep, .string m.name, .int .i64 m.ver, .slice B m.ans.length d] 31)).alloc (.cells #[.int .i64 3, .int .i64 cen, .int .i64 n, .int .i64 ep, .int .i64 tk, .string tree] 35)).alloc (.cells #[.int .i64 0, .int .i64 0, .int .i64 0, .int .i64 0, .int .i64 0, .string ⟨#[]⟩, .int .i64 0, .slice none 0 0] 31)).cell? ⟨w.heap.size, 6, none⟩ = _ := HB0.out.at_ 6
          have x7 : (((w.alloc (.cells #[.int .i64 m.call, .int .i64 m.st, .int .i64 m.since, .int .i64 m.cen, .int .i64 m.ep, .string m.name, .int .i64 m.ver, .slice B m.ans.length d] 31)).alloc (.cells #[.int .i64 3, .int .i64 cen, .int .i64 n, .int .i64 ep, .int .i64 tk, .string tree] 35)).alloc (.cells #[.int .i64 0, .int .i64 0, .int .i64 0, .int .i64 0, .int .i64 0, .string ⟨#[]⟩, .int .i64 0, .slice none 0 0] 31)).cell? ⟨w.heap.size, 7, none⟩ = _ := HB0.out.at_ 7
          have u0 : (((w.alloc (.cells #[.int .i64 m.call, .int .i64 m.st, .int .i64 m.since, .int .i64 m.cen, .int .i64 m.ep, .string m.name, .int .i64 m.ver, .slice B m.ans.length d] 31)).alloc (.cells #[.int .i64 3, .int .i64 cen, .int .i64 n, .int .i64 ep, .int .i64 tk, .string tree] 35)).alloc (.cells #[.int .i64 0, .int .i64 0, .int .i64 0, .int .i64 0, .int .i64 0, .string ⟨#[]⟩, .int .i64 0, .slice none 0 0] 31)).cell? ⟨w.heap.size + 1, 0, none⟩ = _ := HAB.out.at_ 0
          have u1 : (((w.alloc (.cells #[.int .i64 m.call, .int .i64 m.st, .int .i64 m.since, .int .i64 m.cen, .int .i64 m.ep, .string m.name, .int .i64 m.ver, .slice B m.ans.length d] 31)).alloc (.cells #[.int .i64 3, .int .i64 cen, .int .i64 n, .int .i64 ep, .int .i64 tk, .string tree] 35)).alloc (.cells #[.int .i64 0, .int .i64 0, .int .i64 0, .int .i64 0, .int .i64 0, .string ⟨#[]⟩, .int .i64 0, .slice none 0 0] 31)).cell? ⟨w.heap.size + 1, 1, none⟩ = _ := HAB.out.at_ 1
          have u2 : (((w.alloc (.cells #[.int .i64 m.call, .int .i64 m.st, .int .i64 m.since, .int .i64 m.cen, .int .i64 m.ep, .string m.name, .int .i64 m.ver, .slice B m.ans.length d] 31)).alloc (.cells #[.int .i64 3, .int .i64 cen, .int .i64 n, .int .i64 ep, .int .i64 tk, .string tree] 35)).alloc (.cells #[.int .i64 0, .int .i64 0, .int .i64 0, .int .i64 0, .int .i64 0, .string ⟨#[]⟩, .int .i64 0, .slice none 0 0] 31)).cell? ⟨w.heap.size + 1, 2, none⟩ = _ := HAB.out.at_ 2
          have u3 : (((w.alloc (.cells #[.int .i64 m.call, .int .i64 m.st, .int .i64 m.since, .int .i64 m.cen, .int .i64 m.ep, .string m.name, .int .i64 m.ver, .slice B m.ans.length d] 31)).alloc (.cells #[.int .i64 3, .int .i64 cen, .int .i64 n, .int .i64 ep, .int .i64 tk, .string tree] 35)).alloc (.cells #[.int .i64 0, .int .i64 0, .int .i64 0, .int .i64 0, .int .i64 0, .string ⟨#[]⟩, .int .i64 0, .slice none 0 0] 31)).cell? ⟨w.heap.size + 1, 3, none⟩ = _ := HAB.out.at_ 3
          have u4 : (((w.alloc (.cells #[.int .i64 m.call, .int .i64 m.st, .int .i64 m.since, .int .i64 m.cen, .int .i64 m.ep, .string m.name, .int .i64 m.ver, .slice B m.ans.length d] 31)).alloc (.cells #[.int .i64 3, .int .i64 cen, .int .i64 n, .int .i64 ep, .int .i64 tk, .string tree] 35)).alloc (.cells #[.int .i64 0, .int .i64 0, .int .i64 0, .int .i64 0, .int .i64 0, .string ⟨#[]⟩, .int .i64 0, .slice none 0 0] 31)).cell? ⟨w.heap.size + 1, 4, none⟩ = _ := HAB.out.at_ 4
          have u5 : (((w.alloc (.cells #[.int .i64 m.call, .int .i64 m.st, .int .i64 m.since, .int .i64 m.cen, .int .i64 m.ep, .string m.name, .int .i64 m.ver, .slice B m.ans.length d] 31)).alloc (.cells #[.int .i64 3, .int .i64 cen, .int .i64 n, .int .i64 ep, .int .i64 tk, .string tree] 35)).alloc (.cells #[.int .i64 0, .int .i64 0, .int .i64 0, .int .i64 0, .int .i64 0, .string ⟨#[]⟩, .int .i64 0, .slice none 0 0] 31)).cell? ⟨w.heap.size + 1, 5, none⟩ = _ := HAB.out.at_ 5
          simp at x0 x1 x2 x3 x4 x5 x6 x7 u0 u1 u2 u3 u4 u5
          generalize hangS s tk = s' at *
          generalize hangE s tk = er1 at *
          generalize hangS m tk = m' at *
          generalize hangE m tk = er2 at *
          obtain ⟨mcall, mst, msince, mcen, mep, mname, mver, mans⟩ := m'
          go_enter Try.func14, Try.ntmps14
          go_wp2_with fail
          refine HL.out.mono ?_
          rintro e w2 ⟨r2, A2, c2, rfl, hL2, hK2, hg2⟩
          have hne : ∀ i, w.heap.size ≤ i → ¬ (i = lb ∨ some i = r) := fun i hi hs => by
            rcases hs with hs | hs
            · omega
            · have := HRL.out i hs.symm; omega
          have HNE := hid hne
          have hb2 := HB0.out.keep hK2 (hne _ (by omega))
          have ha2 := HAB.out.keep hK2 (hne _ (by omega))
          have hr2 := HR0.out.keep hK2 (hne _ (by omega))
          have b0 := hb2.at_ 0
          have b1 := hb2.at_ 1
          have b2 := hb2.at_ 2
          have b3 := hb2.at_ 3
          have b4 := hb2.at_ 4
          have b5 := hb2.at_ 5
          have b6 := hb2.at_ 6
          have b7 := hb2.at_ 7
          have a0 := ha2.at_ 0
          have a1 := ha2.at_ 1
          have a2 := ha2.at_ 2
          have a3 := ha2.at_ 3
          have a4 := ha2.at_ 4
          have a5 := ha2.at_ 5
          simp at b0 b1 b2 b3 b4 b5 b6 b7 a0 a1 a2 a3 a4 a5
          have HB2 := hid hb2
          have HR2 := hid hr2
          have hz2 := hb2.lt
          have hz2' := hr2.lt
          have hg3 : ∀ g, r2 = some g → r = some g ∨ w.heap.size + 1 + 1 + 1 ≤ g := fun g e => by
            rcases hg2 g e with e | e
            · exact .inl e
            · simp only [World.size_alloc] at e; exact .inr e
          have HG3 := hid hg3
          have hML := (HM1.out.keep hK2 (fun _ _ hs => .inl (.inl hs))).wide (Av' := fun i => ((i = lb ∨ some i = r2) ∨ Av0 i) ∨ (i = w.heap.size ∨ i = w.heap.size + 1 + 1)) (fun i _ hs => by
            rcases hs with ((hs | hs) | hs) | hs
            · exact .inl (.inl (.inl hs))
            · rcases hg3 i hs.symm with e | e
              · exact .inl (.inl (.inr e.symm))
              · exact .inr (by omega)
            · exact .inl (.inr hs)
            · exact .inr (by omega))
          have hAv : ∀ i, (((i = lb ∨ some i = r2) ∨ Av0 i) ∨ (i = w.heap.size ∨ i = w.heap.size + 1 + 1)) → i < w2.heap.size := fun i hs => by
            rcases hs with ((hs | hs) | hs) | hs
            · omega
            · exact hL2.lt i hs.symm
            · have := hAv0 i hs; omega
            · omega
          have HRc := hid (HR.out w2 _ B d hML hAv)
          have HL2 := hid hL2
          have HK2 := hid (Keep.trans (S := fun i => i = lb ∨ some i = r) (HK1.out.wide (fun _ _ f => f.elim)) hK2 (fun _ _ e => e))
          have HG2 := hid (show ∀ g, r2 = some g → r = some g ∨ w.heap.size ≤ g from fun g e => by
            rcases hg2 g e with e | e
            · exact .inl e
            · simp only [World.size_alloc] at e; exact .inr (by omega))
          clear hne hb2 ha2 hr2 hML hAv hL2 hK2 hg2 hg3 HL HR x0 x1 x2 x3 x4 x5 x6 x7 u0 u1 u2 u3 u4 u5
          simp only [CL.cells] at HRc
          go_wp2_with fail
          refine HRc.out.mono ?_
          rintro e w3 ⟨B3, d3, rfl, hS3, hK3⟩
          simp only at hS3
          have hb3 := HB2.out.keep hK3 (fun f => f)
          have hr3 := HR2.out.keep hK3 (fun f => f)
          have p0 := hb3.at_ 0
          have f0 := hb3.free 0
          have q0 := hr3.at_ 0
          have g0 := hr3.free 0
          have p1 := hb3.at_ 1
          have f1 := hb3.free 1
          have q1 := hr3.at_ 1
          have g1 := hr3.free 1
          have p2 := hb3.at_ 2
          have f2 := hb3.free 2
          have q2 := hr3.at_ 2
          have g2 := hr3.free 2
          have p3 := hb3.at_ 3
          have f3 := hb3.free 3
          have q3 := hr3.at_ 3
          have g3 := hr3.free 3
          have p4 := hb3.at_ 4
          have f4 := hb3.free 4
          have q4 := hr3.at_ 4
          have g4 := hr3.free 4
          have p5 := hb3.at_ 5
          have f5 := hb3.free 5
          have q5 := hr3.at_ 5
          have g5 := hr3.free 5
          have p6 := hb3.at_ 6
          have f6 := hb3.free 6
          have q6 := hr3.at_ 6
          have g6 := hr3.free 6
          have p7 := hb3.at_ 7
          have f7 := hb3.free 7
          have q7 := hr3.at_ 7
          have g7 := hr3.free 7
          simp at p0 p1 p2 p3 p4 p5 p6 p7 q0 q1 q2 q3 q4 q5 q6 q7
          have HB3 := hid hb3
          have HR3 := hid hr3
          have HS3 := hid hS3
          have HK3 := hid hK3
          have hz3 := hb3.lt
          have hz3' := hr3.lt
          clear hb3 hr3 hS3 hK3 HRc b0 b1 b2 b3 b4 b5 b6 b7 a0 a1 a2 a3 a4 a5
          simp only [CL.cells]
          go_upto_region 21 with fail
          have hkA := (((((((((Keep.refl (· = w.heap.size) w3).put 0 (.int .i64 mcall)).put 1 (.int .i64 mst)).put 2 (.int .i64 msince)).put 3 (.int .i64 mcen)).put 4 (.int .i64 mep)).put 5 (.string mname)).put 6 (.int .i64 mver)).put 7 (.slice B3 mans.length d3))
          have hrA := HR3.out.keep hkA (by omega)
          have hbA := ((((((((HB3.out.put 0 (.int .i64 mcall)).put 1 (.int .i64 mst)).put 2 (.int .i64 msince)).put 3 (.int .i64 mcen)).put 4 (.int .i64 mep)).put 5 (.string mname)).put 6 (.int .i64 mver)).put 7 (.slice B3 mans.length d3))
          have HSA := hid (HS3.out.keep hkA (fun i hi hs => .inr (.inl hs)))
          generalize ((((((((w3.setCell ⟨w.heap.size, 0, none⟩ (.int .i64 mcall)).setCell ⟨w.heap.size, 1, none⟩ (.int .i64 mst)).setCell ⟨w.heap.size, 2, none⟩ (.int .i64 msince)).setCell ⟨w.heap.size, 3, none⟩ (.int .i64 mcen)).setCell ⟨w.heap.size, 4, none⟩ (.int .i64 mep)).setCell ⟨w.heap.size, 5, none⟩ (.string mname)).setCell ⟨w.heap.size, 6, none⟩ (.int .i64 mver)).setCell ⟨w.heap.size, 7, none⟩ (.slice B3 mans.length d3)) = wA at *
          clear p0 p1 p2 p3 p4 p5 p6 p7 f0 f1 f2 f3 f4 f5 f6 f7 q0 q1 q2 q3 q4 q5 q6 q7 g0 g1 g2 g3 g4 g5 g6 g7
          have p0 := hbA.at_ 0
          have q0 := hrA.at_ 0
          have g0 := hrA.free 0
          have p1 := hbA.at_ 1
          have q1 := hrA.at_ 1
          have g1 := hrA.free 1
          have p2 := hbA.at_ 2
          have q2 := hrA.at_ 2
          have g2 := hrA.free 2
          have p3 := hbA.at_ 3
          have q3 := hrA.at_ 3
          have g3 := hrA.free 3
          have p4 := hbA.at_ 4
          have q4 := hrA.at_ 4
          have g4 := hrA.free 4
          have p5 := hbA.at_ 5
          have q5 := hrA.at_ 5
          have g5 := hrA.free 5
          have p6 := hbA.at_ 6
          have q6 := hrA.at_ 6
          have g6 := hrA.free 6
          have p7 := hbA.at_ 7
          have q7 := hrA.at_ 7
          have g7 := hrA.free 7
          simp at p0 p1 p2 p3 p4 p5 p6 p7 q0 q1 q2 q3 q4 q5 q6 q7
          have HRA := hid hrA
          have hzA := hrA.lt
          clear hrA hbA
          go_wp2_with fail
          have hkB := (((((((((Keep.refl (· = w.heap.size + 1 + 1) wA).put 0 (.int .i64 mcall)).put 1 (.int .i64 mst)).put 2 (.int .i64 msince)).put 3 (.int .i64 mcen)).put 4 (.int .i64 mep)).put 5 (.string mname)).put 6 (.int .i64 mver)).put 7 (.slice B3 mans.length d3))
          have hrB := ((((((((HRA.out.put 0 (.int .i64 mcall)).put 1 (.int .i64 mst)).put 2 (.int .i64 msince)).put 3 (.int .i64 mcen)).put 4 (.int .i64 mep)).put 5 (.string mname)).put 6 (.int .i64 mver)).put 7 (.slice B3 mans.length d3))
          have hkC := (hkA.wide (T := fun i => i = w.heap.size ∨ i = w.heap.size + 1 + 1) (fun _ _ e => .inl e)).trans (hkB.wide (T := fun i => i = w.heap.size ∨ i = w.heap.size + 1 + 1) (fun _ _ e => .inr e)) (fun _ _ e => e)
          generalize ((((((((wA.setCell ⟨w.heap.size + 1 + 1, 0, none⟩ (.int .i64 mcall)).setCell ⟨w.heap.size + 1 + 1, 1, none⟩ (.int .i64 mst)).setCell ⟨w.heap.size + 1 + 1, 2, none⟩ (.int .i64 msince)).setCell ⟨w.heap.size + 1 + 1, 3, none⟩ (.int .i64 mcen)).setCell ⟨w.heap.size + 1 + 1, 4, none⟩ (.int .i64 mep)).setCell ⟨w.heap.size + 1 + 1, 5, none⟩ (.string mname)).setCell ⟨w.heap.size + 1 + 1, 6, none⟩ (.int .i64 mver)).setCell ⟨w.heap.size + 1 + 1, 7, none⟩ (.slice B3 mans.length d3)) = WW at hkB hrB hkC ⊢
          have v0 := hrB.at_ 0
          have v1 := hrB.at_ 1
          have v2 := hrB.at_ 2
          have v3 := hrB.at_ 3
          have v4 := hrB.at_ 4
          have v5 := hrB.at_ 5
          have v6 := hrB.at_ 6
          have v7 := hrB.at_ 7
          simp at v0 v1 v2 v3 v4 v5 v6 v7
          have hsz3 := HK3.out.size
          refine bodyPost_ret (v := .tuple #[.agg #[.int .i64 mcall, .int .i64 mst, .int .i64 msince, .int .i64 mcen, .int .i64 mep, .string mname, .int .i64 mver, .slice B3 mans.length d3], .bool (er1 == er2)]) (by simp [results, Try.results14, go_sem, v0, v1, v2, v3, v4, v5, v6, v7]) rfl ⟨r2, A2, c2, B3, d3, by simp [CL.cells], ?_, ?_, ?_, HG2.out⟩
          · exact (HL2.out.same HK3.out).keep hkC (fun hs => by omega) (fun g e hs => by
              rcases HG3.out g e with e2 | e2
              · have := HRL.out g e2; omega
              · omega)
          · exact (HS3.out.keep hkC (fun i hi hs => .inr hs)).wide (fun _ _ e => .inl e)
          · exact (HK2.out.then HK3.out).trans hkC (fun i hi hs => by omega)
        · have gk3 : (k == (3 : Int)) = false := by simpa using hk3
          by_cases hk4 : k = 4
          · subst hk4
            have hk1 : Same w (((w.alloc (.cells #[.int .i64 m.call, .int .i64 m.st, .int .i64 m.since, .int .i64 m.cen, .int .i64 m.ep, .string m.name, .int .i64 m.ver, .slice B m.ans.length d] 31)).alloc (.cells #[.int .i64 4, .int .i64 cen, .int .i64 n, .int .i64 ep, .int .i64 tk, .string tree] 35)).alloc (.cells #[.int .i64 0, .int .i64 0, .int .i64 0, .int .i64 0, .int .i64 0, .string ⟨#[]⟩, .int .i64 0, .slice none 0 0] 31)) := (((Keep.refl _ w).alloc _).alloc _).alloc _
            have hE1 : stepE s ⟨4, cen, n, ep, tk, tree⟩ = backE s ep := by simp [stepE]
            have hS1 : stepS s ⟨4, cen, n, ep, tk, tree⟩ = backS s ep := by simp [stepS]
            have hE2 : stepE m ⟨4, cen, n, ep, tk, tree⟩ = backE m ep := by simp [stepE]
            have hM2 : stepM m ⟨4, cen, n, ep, tk, tree⟩ = backS m ep := by simp [stepM]
            rw [hE1, hS1, hE2, hM2]
            clear hE1 hS1 hE2 hM2
            have HL := hid (back_any (((w.alloc (.cells #[.int .i64 m.call, .int .i64 m.st, .int .i64 m.since, .int .i64 m.cen, .int .i64 m.ep, .string m.name, .int .i64 m.ver, .slice B m.ans.length d] 31)).alloc (.cells #[.int .i64 4, .int .i64 cen, .int .i64 n, .int .i64 ep, .int .i64 tk, .string tree] 35)).alloc (.cells #[.int .i64 0, .int .i64 0, .int .i64 0, .int .i64 0, .int .i64 0, .string ⟨#[]⟩, .int .i64 0, .slice none 0 0] 31)) lb r A c s (h.same hk1) ep)
            have HR := hid (fun W Av B' d' (hM' : Sl W Av 1 B' m.ans.length (icells m.ans)) (hAv : ∀ i, Av i → i < W.heap.size) => rback_any W Av B' d' m hM' ep)
            have hM1 := (hM.wide (Av' := fun i => ((i = lb ∨ some i = r) ∨ Av0 i) ∨ w.heap.size ≤ i) (fun i hi hs => hs.elim (fun e => e) (fun e => absurd hi (by omega)))).same hk1
            have HM1 := hid hM1
            have HK1 := hid hk1
            have hb0 := ((Blk.made w 31 #[.int .i64 m.call, .int .i64 m.st, .int .i64 m.since, .int .i64 m.cen, .int .i64 m.ep, .string m.name, .int .i64 m.ver, .slice B m.ans.length d]).alloc (.cells #[.int .i64 4, .int .i64 cen, .int .i64 n, .int .i64 ep, .int .i64 tk, .string tree] 35)).alloc (.cells #[.int .i64 0, .int .i64 0, .int .i64 0, .int .i64 0, .int .i64 0, .string ⟨#[]⟩, .int .i64 0, .slice none 0 0] 31)
            have ha0 := (Blk.made (w.alloc (.cells #[.int .i64 m.call, .int .i64 m.st, .int .i64 m.since, .int .i64 m.cen, .int .i64 m.ep, .string m.name, .int .i64 m.ver, .slice B m.ans.length d] 31)) 35 #[.int .i64 4, .int .i64 cen, .int .i64 n, .int .i64 ep, .int .i64 tk, .string tree]).alloc (.cells #[.int .i64 0, .int .i64 0, .int .i64 0, .int .i64 0, .int .i64 0, .string ⟨#[]⟩, .int .i64 0, .slice none 0 0] 31)
            have hr0 := Blk.made ((w.alloc (.cells #[.int .i64 m.call, .int .i64 m.st, .int .i64 m.since, .int .i64 m.cen, .int .i64 m.ep, .string m.name, .int .i64 m.ver, .slice B m.ans.length d] 31)).alloc (.cells #[.int .i64 4, .int .i64 cen, .int .i64 n, .int .i64 ep, .int .i64 tk, .string tree] 35)) 31 #[.int .i64 0, .int .i64 0, .int .i64 0, .int .i64 0, .int .i64 0, .string ⟨#[]⟩, .int .i64 0, .slice none 0 0]
            simp only [World.size_alloc] at ha0 hr0
            have HB0 := hid hb0
            have HAB := hid ha0
            have HR0 := hid hr0
            have hlb := h.top.lt
            have HRL := hid h.lt
            clear hk1 hM1 hb0 ha0 hr0 h hM
            have x0 : (((w.alloc (.cells #[.int .i64 m.call, .int .i64 m.st, .int .i64 m.since, .int .i64 m.cen, .int .i64 m.ep, .string m.name, .int .i64 m.ver, .slice B m.ans.length d] 31)).alloc (.cells #[.int .i64 4, .int .i64 cen, .int .i64 n, .int .i64 ep, .int .i64 tk, .string tree] 35)).alloc (.cells #[.int .i64 0, .int .i64 0, .int .i64 0, .int .i64 0, .int .i64 0, .string ⟨#[]⟩, .int .i64 0, .slice none 0 0] 31)).cell? ⟨w.heap.size, 0, none⟩ = _ := HB0.out.at_ 0
            have x1 : (((w.alloc (.cells #[.int .i64 m.call, .int .i64 m.st, .int .i64 m.since, .int .i64 m.cen, .int .i64 m.ep, .string m.name, .int .i64 m.ver, .slice B m.ans.length d] 31)).alloc (.cells #[.int .i64 4, .int .i64 cen, .int .i64 n, .int .i64 ep, .int .i64 tk, .string tree] 35)).alloc (.cells #[.int .i64 0, .int .i64 0, .int .i64 0, .int .i64 0, .int .i64 0, .string ⟨#[]⟩, .int .i64 0, .slice none 0 0] 31)).cell? ⟨w.heap.size, 1, none⟩ = _ := HB0.out.at_ 1
            have x2 : (((w.alloc (.cells #[.int .i64 m.call, .int .i64 m.st, .int .i64 m.since, .int .i64 m.cen, .int .i64 m.ep, .string m.name, .int .i64 m.ver, .slice B m.ans.length d] 31)).alloc (.cells #[.int .i64 4, .int .i64 cen, .int .i64 n, .int .i64 ep, .int .i64 tk, .string tree] 35)).alloc (.cells #[.int .i64 0, .int .i64 0, .int .i64 0, .int .i64 0, .int .i64 0, .string ⟨#[]⟩, .int .i64 0, .slice none 0 0] 31)).cell? ⟨w.heap.size, 2, none⟩ = _ := HB0.out.at_ 2
            have x3 : (((w.alloc (.cells #[.int .i64 m.call, .int .i64 m.st, .int .i64 m.since, .int .i64 m.cen, .int .i64 m.ep, .string m.name, .int .i64 m.ver, .slice B m.ans.length d] 31)).alloc (.cells #[.int .i64 4, .int .i64 cen, .int .i64 n, .int .i64 ep, .int .i64 tk, .string tree] 35)).alloc (.cells #[.int .i64 0, .int .i64 0, .int .i64 0, .int .i64 0, .int .i64 0, .string ⟨#[]⟩, .int .i64 0, .slice none 0 0] 31)).cell? ⟨w.heap.size, 3, none⟩ = _ := HB0.out.at_ 3
            have x4 : (((w.alloc (.cells #[.int .i64 m.call, .int .i64 m.st, .int .i64 m.since, .int .i64 m.cen, .int .i64 m.ep, .string m.name, .int .i64 m.ver, .slice B m.ans.length d] 31)).alloc (.cells #[.int .i64 4, .int .i64 cen, .int .i64 n, .int .i64 ep, .int .i64 tk, .string tree] 35)).alloc (.cells #[.int .i64 0, .int .i64 0, .int .i64 0, .int .i64 0, .int .i64 0, .string ⟨#[]⟩, .int .i64 0, .slice none 0 0] 31)).cell? ⟨w.heap.size, 4, none⟩ = _ := HB0.out.at_ 4
            have x5 : (((w.alloc (.cells #[.int .i64 m.call, .int .i64 m.st, .int .i64 m.since, .int .i64 m.cen, .int .i64 m.ep, .string m.name, .int .i64 m.ver, .slice B m.ans.length d] 31)).alloc (.cells #[.int .i64 4, .int .i64 cen, .int .i64 n, .int .i64 ep, .int .i64 tk, .string tree] 35)).alloc (.cells #[.int .i64 0, .int .i64 0, .int .i64 0, .int .i64 0, .int .i64 0, .string ⟨#[]⟩, .int .i64 0, .slice none 0 0] 31)).cell? ⟨w.heap.size, 5, none⟩ = _ := HB0.out.at_ 5
            have x6 : (((w.alloc (.cells #[.int .i64 m.call, .int .i64 m.st, .int .i64 m.since, .int .i64 m.cen, .int .i64 m.ep, .string m.name, .int .i64 m.ver, .slice B m.ans.length d] 31)).alloc (.cells #[.int .i64 4, .int .i64 cen, .int .i64 n, .int .i64 ep, .int .i64 tk, .string tree] 35)).alloc (.cells #[.int .i64 0, .int .i64 0, .int .i64 0, .int .i64 0, .int .i64 0, .string ⟨#[]⟩, .int .i64 0, .slice none 0 0] 31)).cell? ⟨w.heap.size, 6, none⟩ = _ := HB0.out.at_ 6
            have x7 : (((w.alloc (.cells #[.int .i64 m.call, .int .i64 m.st, .int .i64 m.since, .int .i64 m.cen, .int .i64 m.ep, .string m.name, .int .i64 m.ver, .slice B m.ans.length d] 31)).alloc (.cells #[.int .i64 4, .int .i64 cen, .int .i64 n, .int .i64 ep, .int .i64 tk, .string tree] 35)).alloc (.cells #[.int .i64 0, .int .i64 0, .int .i64 0, .int .i64 0, .int .i64 0, .string ⟨#[]⟩, .int .i64 0, .slice none 0 0] 31)).cell? ⟨w.heap.size, 7, none⟩ = _ := HB0.out.at_ 7
            have u0 : (((w.alloc (.cells #[.int .i64 m.call, .int .i64 m.st, .int .i64 m.since, .int .i64 m.cen, .int .i64 m.ep, .string m.name, .int .i64 m.ver, .slice B m.ans.length d] 31)).alloc (.cells #[.int .i64 4, .int .i64 cen, .int .i64 n, .int .i64 ep, .int .i64 tk, .string tree] 35)).alloc (.cells #[.int .i64 0, .int .i64 0, .int .i64 0, .int .i64 0, .int .i64 0, .string ⟨#[]⟩, .int .i64 0, .slice none 0 0] 31)).cell? ⟨w.heap.size + 1, 0, none⟩ = _ := HAB.out.at_ 0
            have u1 : (((w.alloc (.cells #[.int .i64 m.call, .int .i64 m.st, .int .i64 m.since, .int .i64 m.cen, .int .i64 m.ep, .string m.name, .int .i64 m.ver, .slice B m.ans.length d] 31)).alloc (.cells #[.int .i64 4, .int .i64 cen, .int .i64 n, .int .i64 ep, .int .i64 tk, .string tree] 35)).alloc (.cells #[.int .i64 0, .int .i64 0, .int .i64 0, .int .i64 0, .int .i64 0, .string ⟨#[]⟩, .int .i64 0, .slice none 0 0] 31)).cell? ⟨w.heap.size + 1, 1, none⟩ = _ := HAB.out.at_ 1
            have u2 : (((w.alloc (.cells #[.int .i64 m.call, .int .i64 m.st, .int .i64 m.since, .int .i64 m.cen, .int .i64 m.ep, .string m.name, .int .i64 m.ver, .slice B m.ans.length d] 31)).alloc (.cells #[.int .i64 4, .int .i64 cen, .int .i64 n, .int .i64 ep, .int .i64 tk, .string tree] 35)).alloc (.cells #[.int .i64 0, .int .i64 0, .int .i64 0, .int .i64 0, .int .i64 0, .string ⟨#[]⟩, .int .i64 0, .slice none 0 0] 31)).cell? ⟨w.heap.size + 1, 2, none⟩ = _ := HAB.out.at_ 2
            have u3 : (((w.alloc (.cells #[.int .i64 m.call, .int .i64 m.st, .int .i64 m.since, .int .i64 m.cen, .int .i64 m.ep, .string m.name, .int .i64 m.ver, .slice B m.ans.length d] 31)).alloc (.cells #[.int .i64 4, .int .i64 cen, .int .i64 n, .int .i64 ep, .int .i64 tk, .string tree] 35)).alloc (.cells #[.int .i64 0, .int .i64 0, .int .i64 0, .int .i64 0, .int .i64 0, .string ⟨#[]⟩, .int .i64 0, .slice none 0 0] 31)).cell? ⟨w.heap.size + 1, 3, none⟩ = _ := HAB.out.at_ 3
            have u4 : (((w.alloc (.cells #[.int .i64 m.call, .int .i64 m.st, .int .i64 m.since, .int .i64 m.cen, .int .i64 m.ep, .string m.name, .int .i64 m.ver, .slice B m.ans.length d] 31)).alloc (.cells #[.int .i64 4, .int .i64 cen, .int .i64 n, .int .i64 ep, .int .i64 tk, .string tree] 35)).alloc (.cells #[.int .i64 0, .int .i64 0, .int .i64 0, .int .i64 0, .int .i64 0, .string ⟨#[]⟩, .int .i64 0, .slice none 0 0] 31)).cell? ⟨w.heap.size + 1, 4, none⟩ = _ := HAB.out.at_ 4
            have u5 : (((w.alloc (.cells #[.int .i64 m.call, .int .i64 m.st, .int .i64 m.since, .int .i64 m.cen, .int .i64 m.ep, .string m.name, .int .i64 m.ver, .slice B m.ans.length d] 31)).alloc (.cells #[.int .i64 4, .int .i64 cen, .int .i64 n, .int .i64 ep, .int .i64 tk, .string tree] 35)).alloc (.cells #[.int .i64 0, .int .i64 0, .int .i64 0, .int .i64 0, .int .i64 0, .string ⟨#[]⟩, .int .i64 0, .slice none 0 0] 31)).cell? ⟨w.heap.size + 1, 5, none⟩ = _ := HAB.out.at_ 5
            simp at x0 x1 x2 x3 x4 x5 x6 x7 u0 u1 u2 u3 u4 u5
            generalize backS s ep = s' at *
            generalize backE s ep = er1 at *
            generalize backS m ep = m' at *
            generalize backE m ep = er2 at *
            obtain ⟨mcall, mst, msince, mcen, mep, mname, mver, mans⟩ := m'
            go_enter Try.func14, Try.ntmps14
            go_wp2_with fail
            refine HL.out.mono ?_
            rintro e w2 ⟨r2, A2, c2, rfl, hL2, hK2, hg2⟩
            have hne : ∀ i, w.heap.size ≤ i → ¬ (i = lb ∨ some i = r) := fun i hi hs => by
              rcases hs with hs | hs
              · omega
              · have := HRL.out i hs.symm; omega
            have HNE := hid hne
            have hb2 := HB0.out.keep hK2 (hne _ (by omega))
            have ha2 := HAB.out.keep hK2 (hne _ (by omega))
            have hr2 := HR0.out.keep hK2 (hne _ (by omega))
            have b0 := hb2.at_ 0
            have b1 := hb2.at_ 1
            have b2 := hb2.at_ 2
            have b3 := hb2.at_ 3
            have b4 := hb2.at_ 4
            have b5 := hb2.at_ 5
            have b6 := hb2.at_ 6
            have b7 := hb2.at_ 7
            have a0 := ha2.at_ 0
            have a1 := ha2.at_ 1
            have a2 := ha2.at_ 2
            have a3 := ha2.at_ 3
            have a4 := ha2.at_ 4
            have a5 := ha2.at_ 5
            simp at b0 b1 b2 b3 b4 b5 b6 b7 a0 a1 a2 a3 a4 a5
            have HB2 := hid hb2
            have HR2 := hid hr2
            have hz2 := hb2.lt
            have hz2' := hr2.lt
            have hg3 : ∀ g, r2 = some g → r = some g ∨ w.heap.size + 1 + 1 + 1 ≤ g := fun g e => by
              rcases hg2 g e with e | e
              · exact .inl e
              · simp only [World.size_alloc] at e; exact .inr e
            have HG3 := hid hg3
            have hML := (HM1.out.keep hK2 (fun _ _ hs => .inl (.inl hs))).wide (Av' := fun i => ((i = lb ∨ some i = r2) ∨ Av0 i) ∨ (i = w.heap.size ∨ i = w.heap.size + 1 + 1)) (fun i _ hs => by
              rcases hs with ((hs | hs) | hs) | hs
              · exact .inl (.inl (.inl hs))
              · rcases hg3 i hs.symm with e | e
                · exact .inl (.inl (.inr e.symm))
                · exact .inr (by omega)
              · exact .inl (.inr hs)
              · exact .inr (by omega))
            have hAv : ∀ i, (((i = lb ∨ some i = r2) ∨ Av0 i) ∨ (i = w.heap.size ∨ i = w.heap.size + 1 + 1)) → i < w2.heap.size := fun i hs => by
              rcases hs with ((hs | hs) | hs) | hs
              · omega
              · exact hL2.lt i hs.symm
              · have := hAv0 i hs; omega
              · omega
            have HRc := hid (HR.out w2 _ B d hML hAv)
            have HL2 := hid hL2
            have HK2 := hid (Keep.trans (S := fun i => i = lb ∨ some i = r) (HK1.out.wide (fun _ _ f => f.elim)) hK2 (fun _ _ e => e))
            have HG2 := hid (show ∀ g, r2 = some g → r = some g ∨ w.heap.size ≤ g from fun g e => by
              rcases hg2 g e with e | e
              · exact .inl e
              · simp only [World.size_alloc] at e; exact .inr (by omega))
            clear hne hb2 ha2 hr2 hML hAv hL2 hK2 hg2 hg3 HL HR x0 x1 x2 x3 x4 x5 x6 x7 u0 u1 u2 u3 u4 u5
            simp only [CL.cells] at HRc
            go_wp2_with fail
            refine HRc.out.mono ?_
            rintro e w3 ⟨B3, d3, rfl, hS3, hK3⟩
            simp only at hS3
            have hb3 := HB2.out.keep hK3 (fun f => f)
            have hr3 := HR2.out.keep hK3 (fun f => f)
            have p0 := hb3.at_ 0
            have f0 := hb3.free 0
            have q0 := hr3.at_ 0
            have g0 := hr3.free 0
            have p1 := hb3.at_ 1
            have f1 := hb3.free 1
            have q1 := hr3.at_ 1
            have g1 := hr3.free 1
            have p2 := hb3.at_ 2
            have f2 := hb3.free 2
            have q2 := hr3.at_ 2
            have g2 := hr3.free 2
            have p3 := hb3.at_ 3
            have f3 := hb3.free 3
            have q3 := hr3.at_ 3
            have g3 := hr3.free 3
            have p4 := hb3.at_ 4
            have f4 := hb3.free 4
            have q4 := hr3.at_ 4
            have g4 := hr3.free 4
            have p5 := hb3.at_ 5
            have f5 := hb3.free 5
            have q5 := hr3.at_ 5
            have g5 := hr3.free 5
            have p6 := hb3.at_ 6
            have f6 := hb3.free 6
            have q6 := hr3.at_ 6
            have g6 := hr3.free 6
            have p7 := hb3.at_ 7
            have f7 := hb3.free 7
            have q7 := hr3.at_ 7
            have g7 := hr3.free 7
            simp at p0 p1 p2 p3 p4 p5 p6 p7 q0 q1 q2 q3 q4 q5 q6 q7
            have HB3 := hid hb3
            have HR3 := hid hr3
            have HS3 := hid hS3
            have HK3 := hid hK3
            have hz3 := hb3.lt
            have hz3' := hr3.lt
            clear hb3 hr3 hS3 hK3 HRc b0 b1 b2 b3 b4 b5 b6 b7 a0 a1 a2 a3 a4 a5
            simp only [CL.cells]
            go_upto_region 21 with fail
            have hkA := (((((((((Keep.refl (· = w.heap.size) w3).put 0 (.int .i64 mcall)).put 1 (.int .i64 mst)).put 2 (.int .i64 msince)).put 3 (.int .i64 mcen)).put 4 (.int .i64 mep)).put 5 (.string mname)).put 6 (.int .i64 mver)).put 7 (.slice B3 mans.length d3))
            have hrA := HR3.out.keep hkA (by omega)
            have hbA := ((((((((HB3.out.put 0 (.int .i64 mcall)).put 1 (.int .i64 mst)).put 2 (.int .i64 msince)).put 3 (.int .i64 mcen)).put 4 (.int .i64 mep)).put 5 (.string mname)).put 6 (.int .i64 mver)).put 7 (.slice B3 mans.length d3))
            have HSA := hid (HS3.out.keep hkA (fun i hi hs => .inr (.inl hs)))
            generalize ((((((((w3.setCell ⟨w.heap.size, 0, none⟩ (.int .i64 mcall)).setCell ⟨w.heap.size, 1, none⟩ (.int .i64 mst)).setCell ⟨w.heap.size, 2, none⟩ (.int .i64 msince)).setCell ⟨w.heap.size, 3, none⟩ (.int .i64 mcen)).setCell ⟨w.heap.size, 4, none⟩ (.int .i64 mep)).setCell ⟨w.heap.size, 5, none⟩ (.string mname)).setCell ⟨w.heap.size, 6, none⟩ (.int .i64 mver)).setCell ⟨w.heap.size, 7, none⟩ (.slice B3 mans.length d3)) = wA at *
            clear p0 p1 p2 p3 p4 p5 p6 p7 f0 f1 f2 f3 f4 f5 f6 f7 q0 q1 q2 q3 q4 q5 q6 q7 g0 g1 g2 g3 g4 g5 g6 g7
            have p0 := hbA.at_ 0
            have q0 := hrA.at_ 0
            have g0 := hrA.free 0
            have p1 := hbA.at_ 1
            have q1 := hrA.at_ 1
            have g1 := hrA.free 1
            have p2 := hbA.at_ 2
            have q2 := hrA.at_ 2
            have g2 := hrA.free 2
            have p3 := hbA.at_ 3
            have q3 := hrA.at_ 3
            have g3 := hrA.free 3
            have p4 := hbA.at_ 4
            have q4 := hrA.at_ 4
            have g4 := hrA.free 4
            have p5 := hbA.at_ 5
            have q5 := hrA.at_ 5
            have g5 := hrA.free 5
            have p6 := hbA.at_ 6
            have q6 := hrA.at_ 6
            have g6 := hrA.free 6
            have p7 := hbA.at_ 7
            have q7 := hrA.at_ 7
            have g7 := hrA.free 7
            simp at p0 p1 p2 p3 p4 p5 p6 p7 q0 q1 q2 q3 q4 q5 q6 q7
            have HRA := hid hrA
            have hzA := hrA.lt
            clear hrA hbA
            go_wp2_with fail
            have hkB := (((((((((Keep.refl (· = w.heap.size + 1 + 1) wA).put 0 (.int .i64 mcall)).put 1 (.int .i64 mst)).put 2 (.int .i64 msince)).put 3 (.int .i64 mcen)).put 4 (.int .i64 mep)).put 5 (.string mname)).put 6 (.int .i64 mver)).put 7 (.slice B3 mans.length d3))
            have hrB := ((((((((HRA.out.put 0 (.int .i64 mcall)).put 1 (.int .i64 mst)).put 2 (.int .i64 msince)).put 3 (.int .i64 mcen)).put 4 (.int .i64 mep)).put 5 (.string mname)).put 6 (.int .i64 mver)).put 7 (.slice B3 mans.length d3))
            have hkC := (hkA.wide (T := fun i => i = w.heap.size ∨ i = w.heap.size + 1 + 1) (fun _ _ e => .inl e)).trans (hkB.wide (T := fun i => i = w.heap.size ∨ i = w.heap.size + 1 + 1) (fun _ _ e => .inr e)) (fun _ _ e => e)
            generalize ((((((((wA.setCell ⟨w.heap.size + 1 + 1, 0, none⟩ (.int .i64 mcall)).setCell ⟨w.heap.size + 1 + 1, 1, none⟩ (.int .i64 mst)).setCell ⟨w.heap.size + 1 + 1, 2, none⟩ (.int .i64 msince)).setCell ⟨w.heap.size + 1 + 1, 3, none⟩ (.int .i64 mcen)).setCell ⟨w.heap.size + 1 + 1, 4, none⟩ (.int .i64 mep)).setCell ⟨w.heap.size + 1 + 1, 5, none⟩ (.string mname)).setCell ⟨w.heap.size + 1 + 1, 6, none⟩ (.int .i64 mver)).setCell ⟨w.heap.size + 1 + 1, 7, none⟩ (.slice B3 mans.length d3)) = WW at hkB hrB hkC ⊢
            have v0 := hrB.at_ 0
            have v1 := hrB.at_ 1
            have v2 := hrB.at_ 2
            have v3 := hrB.at_ 3
            have v4 := hrB.at_ 4
            have v5 := hrB.at_ 5
            have v6 := hrB.at_ 6
            have v7 := hrB.at_ 7
            simp at v0 v1 v2 v3 v4 v5 v6 v7
            have hsz3 := HK3.out.size
            refine bodyPost_ret (v := .tuple #[.agg #[.int .i64 mcall, .int .i64 mst, .int .i64 msince, .int .i64 mcen, .int .i64 mep, .string mname, .int .i64 mver, .slice B3 mans.length d3], .bool (er1 == er2)]) (by simp [results, Try.results14, go_sem, v0, v1, v2, v3, v4, v5, v6, v7]) rfl ⟨r2, A2, c2, B3, d3, by simp [CL.cells], ?_, ?_, ?_, HG2.out⟩
            · exact (HL2.out.same HK3.out).keep hkC (fun hs => by omega) (fun g e hs => by
                rcases HG3.out g e with e2 | e2
                · have := HRL.out g e2; omega
                · omega)
            · exact (HS3.out.keep hkC (fun i hi hs => .inr hs)).wide (fun _ _ e => .inl e)
            · exact (HK2.out.then HK3.out).trans hkC (fun i hi hs => by omega)
          · have gk4 : (k == (4 : Int)) = false := by simpa using hk4
            by_cases hk5 : k = 5
            · subst hk5
              have hk1 : Same w (((w.alloc (.cells #[.int .i64 m.call, .int .i64 m.st, .int .i64 m.since, .int .i64 m.cen, .int .i64 m.ep, .string m.name, .int .i64 m.ver, .slice B m.ans.length d] 31)).alloc (.cells #[.int .i64 5, .int .i64 cen, .int .i64 n, .int .i64 ep, .int .i64 tk, .string tree] 35)).alloc (.cells #[.int .i64 0, .int .i64 0, .int .i64 0, .int .i64 0, .int .i64 0, .string ⟨#[]⟩, .int .i64 0, .slice none 0 0] 31)) := (((Keep.refl _ w).alloc _).alloc _).alloc _
              have hE1 : stepE s ⟨5, cen, n, ep, tk, tree⟩ = closeE s ep := by simp [stepE]
              have hS1 : stepS s ⟨5, cen, n, ep, tk, tree⟩ = closeS s ep := by simp [stepS]
              have hE2 : stepE m ⟨5, cen, n, ep, tk, tree⟩ = closeE m ep := by simp [stepE]
              have hM2 : stepM m ⟨5, cen, n, ep, tk, tree⟩ = closeS m ep := by simp [stepM]
              rw [hE1, hS1, hE2, hM2]
              clear hE1 hS1 hE2 hM2
              have HL := hid (close_any (((w.alloc (.cells #[.int .i64 m.call, .int .i64 m.st, .int .i64 m.since, .int .i64 m.cen, .int .i64 m.ep, .string m.name, .int .i64 m.ver, .slice B m.ans.length d] 31)).alloc (.cells #[.int .i64 5, .int .i64 cen, .int .i64 n, .int .i64 ep, .int .i64 tk, .string tree] 35)).alloc (.cells #[.int .i64 0, .int .i64 0, .int .i64 0, .int .i64 0, .int .i64 0, .string ⟨#[]⟩, .int .i64 0, .slice none 0 0] 31)) lb r A c s (h.same hk1) ep)
              have HR := hid (fun W Av B' d' (hM' : Sl W Av 1 B' m.ans.length (icells m.ans)) (hAv : ∀ i, Av i → i < W.heap.size) => rclose_any W Av B' d' m hM' ep)
              have hM1 := (hM.wide (Av' := fun i => ((i = lb ∨ some i = r) ∨ Av0 i) ∨ w.heap.size ≤ i) (fun i hi hs => hs.elim (fun e => e) (fun e => absurd hi (by omega)))).same hk1
              have HM1 := hid hM1
              have HK1 := hid hk1
              have hb0 := ((Blk.made w 31 #[.int .i64 m.call, .int .i64 m.st, .int .i64 m.since, .int .i64 m.cen, .int .i64 m.ep, .string m.name, .int .i64 m.ver, .slice B m.ans.length d]).alloc (.cells #[.int .i64 5, .int .i64 cen, .int .i64 n, .int .i64 ep, .int .i64 tk, .string tree] 35)).alloc (.cells #[.int .i64 0, .int .i64 0, .int .i64 0, .int .i64 0, .int .i64 0, .string ⟨#[]⟩, .int .i64 0, .slice none 0 0] 31)
              have ha0 := (Blk.made (w.alloc (.cells #[.int .i64 m.call, .int .i64 m.st, .int .i64 m.since, .int .i64 m.cen, .int .i64 m.ep, .string m.name, .int .i64 m.ver, .slice B m.ans.length d] 31)) 35 #[.int .i64 5, .int .i64 cen, .int .i64 n, .int .i64 ep, .int .i64 tk, .string tree]).alloc (.cells #[.int .i64 0, .int .i64 0, .int .i64 0, .int .i64 0, .int .i64 0, .string ⟨#[]⟩, .int .i64 0, .slice none 0 0] 31)
              have hr0 := Blk.made ((w.alloc (.cells #[.int .i64 m.call, .int .i64 m.st, .int .i64 m.since, .int .i64 m.cen, .int .i64 m.ep, .string m.name, .int .i64 m.ver, .slice B m.ans.length d] 31)).alloc (.cells #[.int .i64 5, .int .i64 cen, .int .i64 n, .int .i64 ep, .int .i64 tk, .string tree] 35)) 31 #[.int .i64 0, .int .i64 0, .int .i64 0, .int .i64 0, .int .i64 0, .string ⟨#[]⟩, .int .i64 0, .slice none 0 0]
              simp only [World.size_alloc] at ha0 hr0
              have HB0 := hid hb0
              have HAB := hid ha0
              have HR0 := hid hr0
              have hlb := h.top.lt
              have HRL := hid h.lt
              clear hk1 hM1 hb0 ha0 hr0 h hM
              have x0 : (((w.alloc (.cells #[.int .i64 m.call, .int .i64 m.st, .int .i64 m.since, .int .i64 m.cen, .int .i64 m.ep, .string m.name, .int .i64 m.ver, .slice B m.ans.length d] 31)).alloc (.cells #[.int .i64 5, .int .i64 cen, .int .i64 n, .int .i64 ep, .int .i64 tk, .string tree] 35)).alloc (.cells #[.int .i64 0, .int .i64 0, .int .i64 0, .int .i64 0, .int .i64 0, .string ⟨#[]⟩, .int .i64 0, .slice none 0 0] 31)).cell? ⟨w.heap.size, 0, none⟩ = _ := HB0.out.at_ 0
              have x1 : (((w.alloc (.cells #[.int .i64 m.call, .int .i64 m.st, .int .i64 m.since, .int .i64 m.cen, .int .i64 m.ep, .string m.name, .int .i64 m.ver, .slice B m.ans.length d] 31)).alloc (.cells #[.int .i64 5, .int .i64 cen, .int .i64 n, .int .i64 ep, .int .i64 tk, .string tree] 35)).alloc (.cells #[.int .i64 0, .int .i64 0, .int .i64 0, .int .i64 0, .int .i64 0, .string ⟨#[]⟩, .int .i64 0, .slice none 0 0] 31)).cell? ⟨w.heap.size, 1, none⟩ = _ := HB0.out.at_ 1
              have x2 : (((w.alloc (.cells #[.int .i64 m.call, .int .i64 m.st, .int .i64 m.since, .int .i64 m.cen, .int .i64 m.ep, .string m.name, .int .i64 m.ver, .slice B m.ans.length d] 31)).alloc (.cells #[.int .i64 5, .int .i64 cen, .int .i64 n, .int .i64 ep, .int .i64 tk, .string tree] 35)).alloc (.cells #[.int .i64 0, .int .i64 0, .int .i64 0, .int .i64 0, .int .i64 0, .string ⟨#[]⟩, .int .i64 0, .slice none 0 0] 31)).cell? ⟨w.heap.size, 2, none⟩ = _ := HB0.out.at_ 2
              have x3 : (((w.alloc (.cells #[.int .i64 m.call, .int .i64 m.st, .int .i64 m.since, .int .i64 m.cen, .int .i64 m.ep, .string m.name, .int .i64 m.ver, .slice B m.ans.length d] 31)).alloc (.cells #[.int .i64 5, .int .i64 cen, .int .i64 n, .int .i64 ep, .int .i64 tk, .string tree] 35)).alloc (.cells #[.int .i64 0, .int .i64 0, .int .i64 0, .int .i64 0, .int .i64 0, .string ⟨#[]⟩, .int .i64 0, .slice none 0 0] 31)).cell? ⟨w.heap.size, 3, none⟩ = _ := HB0.out.at_ 3
              have x4 : (((w.alloc (.cells #[.int .i64 m.call, .int .i64 m.st, .int .i64 m.since, .int .i64 m.cen, .int .i64 m.ep, .string m.name, .int .i64 m.ver, .slice B m.ans.length d] 31)).alloc (.cells #[.int .i64 5, .int .i64 cen, .int .i64 n, .int .i64 ep, .int .i64 tk, .string tree] 35)).alloc (.cells #[.int .i64 0, .int .i64 0, .int .i64 0, .int .i64 0, .int .i64 0, .string ⟨#[]⟩, .int .i64 0, .slice none 0 0] 31)).cell? ⟨w.heap.size, 4, none⟩ = _ := HB0.out.at_ 4
              have x5 : (((w.alloc (.cells #[.int .i64 m.call, .int .i64 m.st, .int .i64 m.since, .int .i64 m.cen, .int .i64 m.ep, .string m.name, .int .i64 m.ver, .slice B m.ans.length d] 31)).alloc (.cells #[.int .i64 5, .int .i64 cen, .int .i64 n, .int .i64 ep, .int .i64 tk, .string tree] 35)).alloc (.cells #[.int .i64 0, .int .i64 0, .int .i64 0, .int .i64 0, .int .i64 0, .string ⟨#[]⟩, .int .i64 0, .slice none 0 0] 31)).cell? ⟨w.heap.size, 5, none⟩ = _ := HB0.out.at_ 5
              have x6 : (((w.alloc (.cells #[.int .i64 m.call, .int .i64 m.st, .int .i64 m.since, .int .i64 m.cen, .int .i64 m.ep, .string m.name, .int .i64 m.ver, .slice B m.ans.length d] 31)).alloc (.cells #[.int .i64 5, .int .i64 cen, .int .i64 n, .int .i64 ep, .int .i64 tk, .string tree] 35)).alloc (.cells #[.int .i64 0, .int .i64 0, .int .i64 0, .int .i64 0, .int .i64 0, .string ⟨#[]⟩, .int .i64 0, .slice none 0 0] 31)).cell? ⟨w.heap.size, 6, none⟩ = _ := HB0.out.at_ 6
              have x7 : (((w.alloc (.cells #[.int .i64 m.call, .int .i64 m.st, .int .i64 m.since, .int .i64 m.cen, .int .i64 m.ep, .string m.name, .int .i64 m.ver, .slice B m.ans.length d] 31)).alloc (.cells #[.int .i64 5, .int .i64 cen, .int .i64 n, .int .i64 ep, .int .i64 tk, .string tree] 35)).alloc (.cells #[.int .i64 0, .int .i64 0, .int .i64 0, .int .i64 0, .int .i64 0, .string ⟨#[]⟩, .int .i64 0, .slice none 0 0] 31)).cell? ⟨w.heap.size, 7, none⟩ = _ := HB0.out.at_ 7
              have u0 : (((w.alloc (.cells #[.int .i64 m.call, .int .i64 m.st, .int .i64 m.since, .int .i64 m.cen, .int .i64 m.ep, .string m.name, .int .i64 m.ver, .slice B m.ans.length d] 31)).alloc (.cells #[.int .i64 5, .int .i64 cen, .int .i64 n, .int .i64 ep, .int .i64 tk, .string tree] 35)).alloc (.cells #[.int .i64 0, .int .i64 0, .int .i64 0, .int .i64 0, .int .i64 0, .string ⟨#[]⟩, .int .i64 0, .slice none 0 0] 31)).cell? ⟨w.heap.size + 1, 0, none⟩ = _ := HAB.out.at_ 0
              have u1 : (((w.alloc (.cells #[.int .i64 m.call, .int .i64 m.st, .int .i64 m.since, .int .i64 m.cen, .int .i64 m.ep, .string m.name, .int .i64 m.ver, .slice B m.ans.length d] 31)).alloc (.cells #[.int .i64 5, .int .i64 cen, .int .i64 n, .int .i64 ep, .int .i64 tk, .string tree] 35)).alloc (.cells #[.int .i64 0, .int .i64 0, .int .i64 0, .int .i64 0, .int .i64 0, .string ⟨#[]⟩, .int .i64 0, .slice none 0 0] 31)).cell? ⟨w.heap.size + 1, 1, none⟩ = _ := HAB.out.at_ 1
              have u2 : (((w.alloc (.cells #[.int .i64 m.call, .int .i64 m.st, .int .i64 m.since, .int .i64 m.cen, .int .i64 m.ep, .string m.name, .int .i64 m.ver, .slice B m.ans.length d] 31)).alloc (.cells #[.int .i64 5, .int .i64 cen, .int .i64 n, .int .i64 ep, .int .i64 tk, .string tree] 35)).alloc (.cells #[.int .i64 0, .int .i64 0, .int .i64 0, .int .i64 0, .int .i64 0, .string ⟨#[]⟩, .int .i64 0, .slice none 0 0] 31)).cell? ⟨w.heap.size + 1, 2, none⟩ = _ := HAB.out.at_ 2
              have u3 : (((w.alloc (.cells #[.int .i64 m.call, .int .i64 m.st, .int .i64 m.since, .int .i64 m.cen, .int .i64 m.ep, .string m.name, .int .i64 m.ver, .slice B m.ans.length d] 31)).alloc (.cells #[.int .i64 5, .int .i64 cen, .int .i64 n, .int .i64 ep, .int .i64 tk, .string tree] 35)).alloc (.cells #[.int .i64 0, .int .i64 0, .int .i64 0, .int .i64 0, .int .i64 0, .string ⟨#[]⟩, .int .i64 0, .slice none 0 0] 31)).cell? ⟨w.heap.size + 1, 3, none⟩ = _ := HAB.out.at_ 3
              have u4 : (((w.alloc (.cells #[.int .i64 m.call, .int .i64 m.st, .int .i64 m.since, .int .i64 m.cen, .int .i64 m.ep, .string m.name, .int .i64 m.ver, .slice B m.ans.length d] 31)).alloc (.cells #[.int .i64 5, .int .i64 cen, .int .i64 n, .int .i64 ep, .int .i64 tk, .string tree] 35)).alloc (.cells #[.int .i64 0, .int .i64 0, .int .i64 0, .int .i64 0, .int .i64 0, .string ⟨#[]⟩, .int .i64 0, .slice none 0 0] 31)).cell? ⟨w.heap.size + 1, 4, none⟩ = _ := HAB.out.at_ 4
              have u5 : (((w.alloc (.cells #[.int .i64 m.call, .int .i64 m.st, .int .i64 m.since, .int .i64 m.cen, .int .i64 m.ep, .string m.name, .int .i64 m.ver, .slice B m.ans.length d] 31)).alloc (.cells #[.int .i64 5, .int .i64 cen, .int .i64 n, .int .i64 ep, .int .i64 tk, .string tree] 35)).alloc (.cells #[.int .i64 0, .int .i64 0, .int .i64 0, .int .i64 0, .int .i64 0, .string ⟨#[]⟩, .int .i64 0, .slice none 0 0] 31)).cell? ⟨w.heap.size + 1, 5, none⟩ = _ := HAB.out.at_ 5
              simp at x0 x1 x2 x3 x4 x5 x6 x7 u0 u1 u2 u3 u4 u5
              generalize closeS s ep = s' at *
              generalize closeE s ep = er1 at *
              generalize closeS m ep = m' at *
              generalize closeE m ep = er2 at *
              obtain ⟨mcall, mst, msince, mcen, mep, mname, mver, mans⟩ := m'
              go_enter Try.func14, Try.ntmps14
              go_wp2_with fail
              refine HL.out.mono ?_
              rintro e w2 ⟨r2, A2, c2, rfl, hL2, hK2, hg2⟩
              have hne : ∀ i, w.heap.size ≤ i → ¬ (i = lb ∨ some i = r) := fun i hi hs => by
                rcases hs with hs | hs
                · omega
                · have := HRL.out i hs.symm; omega
              have HNE := hid hne
              have hb2 := HB0.out.keep hK2 (hne _ (by omega))
              have ha2 := HAB.out.keep hK2 (hne _ (by omega))
              have hr2 := HR0.out.keep hK2 (hne _ (by omega))
              have b0 := hb2.at_ 0
              have b1 := hb2.at_ 1
              have b2 := hb2.at_ 2
              have b3 := hb2.at_ 3
              have b4 := hb2.at_ 4
              have b5 := hb2.at_ 5
              have b6 := hb2.at_ 6
              have b7 := hb2.at_ 7
              have a0 := ha2.at_ 0
              have a1 := ha2.at_ 1
              have a2 := ha2.at_ 2
              have a3 := ha2.at_ 3
              have a4 := ha2.at_ 4
              have a5 := ha2.at_ 5
              simp at b0 b1 b2 b3 b4 b5 b6 b7 a0 a1 a2 a3 a4 a5
              have HB2 := hid hb2
              have HR2 := hid hr2
              have hz2 := hb2.lt
              have hz2' := hr2.lt
              have hg3 : ∀ g, r2 = some g → r = some g ∨ w.heap.size + 1 + 1 + 1 ≤ g := fun g e => by
                rcases hg2 g e with e | e
                · exact .inl e
                · simp only [World.size_alloc] at e; exact .inr e
              have HG3 := hid hg3
              have hML := (HM1.out.keep hK2 (fun _ _ hs => .inl (.inl hs))).wide (Av' := fun i => ((i = lb ∨ some i = r2) ∨ Av0 i) ∨ (i = w.heap.size ∨ i = w.heap.size + 1 + 1)) (fun i _ hs => by
                rcases hs with ((hs | hs) | hs) | hs
                · exact .inl (.inl (.inl hs))
                · rcases hg3 i hs.symm with e | e
                  · exact .inl (.inl (.inr e.symm))
                  · exact .inr (by omega)
                · exact .inl (.inr hs)
                · exact .inr (by omega))
              have hAv : ∀ i, (((i = lb ∨ some i = r2) ∨ Av0 i) ∨ (i = w.heap.size ∨ i = w.heap.size + 1 + 1)) → i < w2.heap.size := fun i hs => by
                rcases hs with ((hs | hs) | hs) | hs
                · omega
                · exact hL2.lt i hs.symm
                · have := hAv0 i hs; omega
                · omega
              have HRc := hid (HR.out w2 _ B d hML hAv)
              have HL2 := hid hL2
              have HK2 := hid (Keep.trans (S := fun i => i = lb ∨ some i = r) (HK1.out.wide (fun _ _ f => f.elim)) hK2 (fun _ _ e => e))
              have HG2 := hid (show ∀ g, r2 = some g → r = some g ∨ w.heap.size ≤ g from fun g e => by
                rcases hg2 g e with e | e
                · exact .inl e
                · simp only [World.size_alloc] at e; exact .inr (by omega))
              clear hne hb2 ha2 hr2 hML hAv hL2 hK2 hg2 hg3 HL HR x0 x1 x2 x3 x4 x5 x6 x7 u0 u1 u2 u3 u4 u5
              simp only [CL.cells] at HRc
              go_wp2_with fail
              refine HRc.out.mono ?_
              rintro e w3 ⟨B3, d3, rfl, hS3, hK3⟩
              simp only at hS3
              have hb3 := HB2.out.keep hK3 (fun f => f)
              have hr3 := HR2.out.keep hK3 (fun f => f)
              have p0 := hb3.at_ 0
              have f0 := hb3.free 0
              have q0 := hr3.at_ 0
              have g0 := hr3.free 0
              have p1 := hb3.at_ 1
              have f1 := hb3.free 1
              have q1 := hr3.at_ 1
              have g1 := hr3.free 1
              have p2 := hb3.at_ 2
              have f2 := hb3.free 2
              have q2 := hr3.at_ 2
              have g2 := hr3.free 2
              have p3 := hb3.at_ 3
              have f3 := hb3.free 3
              have q3 := hr3.at_ 3
              have g3 := hr3.free 3
              have p4 := hb3.at_ 4
              have f4 := hb3.free 4
              have q4 := hr3.at_ 4
              have g4 := hr3.free 4
              have p5 := hb3.at_ 5
              have f5 := hb3.free 5
              have q5 := hr3.at_ 5
              have g5 := hr3.free 5
              have p6 := hb3.at_ 6
              have f6 := hb3.free 6
              have q6 := hr3.at_ 6
              have g6 := hr3.free 6
              have p7 := hb3.at_ 7
              have f7 := hb3.free 7
              have q7 := hr3.at_ 7
              have g7 := hr3.free 7
              simp at p0 p1 p2 p3 p4 p5 p6 p7 q0 q1 q2 q3 q4 q5 q6 q7
              have HB3 := hid hb3
              have HR3 := hid hr3
              have HS3 := hid hS3
              have HK3 := hid hK3
              have hz3 := hb3.lt
              have hz3' := hr3.lt
              clear hb3 hr3 hS3 hK3 HRc b0 b1 b2 b3 b4 b5 b6 b7 a0 a1 a2 a3 a4 a5
              simp only [CL.cells]
              go_upto_region 21 with fail
              have hkA := (((((((((Keep.refl (· = w.heap.size) w3).put 0 (.int .i64 mcall)).put 1 (.int .i64 mst)).put 2 (.int .i64 msince)).put 3 (.int .i64 mcen)).put 4 (.int .i64 mep)).put 5 (.string mname)).put 6 (.int .i64 mver)).put 7 (.slice B3 mans.length d3))
              have hrA := HR3.out.keep hkA (by omega)
              have hbA := ((((((((HB3.out.put 0 (.int .i64 mcall)).put 1 (.int .i64 mst)).put 2 (.int .i64 msince)).put 3 (.int .i64 mcen)).put 4 (.int .i64 mep)).put 5 (.string mname)).put 6 (.int .i64 mver)).put 7 (.slice B3 mans.length d3))
              have HSA := hid (HS3.out.keep hkA (fun i hi hs => .inr (.inl hs)))
              generalize ((((((((w3.setCell ⟨w.heap.size, 0, none⟩ (.int .i64 mcall)).setCell ⟨w.heap.size, 1, none⟩ (.int .i64 mst)).setCell ⟨w.heap.size, 2, none⟩ (.int .i64 msince)).setCell ⟨w.heap.size, 3, none⟩ (.int .i64 mcen)).setCell ⟨w.heap.size, 4, none⟩ (.int .i64 mep)).setCell ⟨w.heap.size, 5, none⟩ (.string mname)).setCell ⟨w.heap.size, 6, none⟩ (.int .i64 mver)).setCell ⟨w.heap.size, 7, none⟩ (.slice B3 mans.length d3)) = wA at *
              clear p0 p1 p2 p3 p4 p5 p6 p7 f0 f1 f2 f3 f4 f5 f6 f7 q0 q1 q2 q3 q4 q5 q6 q7 g0 g1 g2 g3 g4 g5 g6 g7
              have p0 := hbA.at_ 0
              have q0 := hrA.at_ 0
              have g0 := hrA.free 0
              have p1 := hbA.at_ 1
              have q1 := hrA.at_ 1
              have g1 := hrA.free 1
              have p2 := hbA.at_ 2
              have q2 := hrA.at_ 2
              have g2 := hrA.free 2
              have p3 := hbA.at_ 3
              have q3 := hrA.at_ 3
              have g3 := hrA.free 3
              have p4 := hbA.at_ 4
              have q4 := hrA.at_ 4
              have g4 := hrA.free 4
              have p5 := hbA.at_ 5
              have q5 := hrA.at_ 5
              have g5 := hrA.free 5
              have p6 := hbA.at_ 6
              have q6 := hrA.at_ 6
              have g6 := hrA.free 6
              have p7 := hbA.at_ 7
              have q7 := hrA.at_ 7
              have g7 := hrA.free 7
              simp at p0 p1 p2 p3 p4 p5 p6 p7 q0 q1 q2 q3 q4 q5 q6 q7
              have HRA := hid hrA
              have hzA := hrA.lt
              clear hrA hbA
              go_wp2_with fail
              have hkB := (((((((((Keep.refl (· = w.heap.size + 1 + 1) wA).put 0 (.int .i64 mcall)).put 1 (.int .i64 mst)).put 2 (.int .i64 msince)).put 3 (.int .i64 mcen)).put 4 (.int .i64 mep)).put 5 (.string mname)).put 6 (.int .i64 mver)).put 7 (.slice B3 mans.length d3))
              have hrB := ((((((((HRA.out.put 0 (.int .i64 mcall)).put 1 (.int .i64 mst)).put 2 (.int .i64 msince)).put 3 (.int .i64 mcen)).put 4 (.int .i64 mep)).put 5 (.string mname)).put 6 (.int .i64 mver)).put 7 (.slice B3 mans.length d3))
              have hkC := (hkA.wide (T := fun i => i = w.heap.size ∨ i = w.heap.size + 1 + 1) (fun _ _ e => .inl e)).trans (hkB.wide (T := fun i => i = w.heap.size ∨ i = w.heap.size + 1 + 1) (fun _ _ e => .inr e)) (fun _ _ e => e)
              generalize ((((((((wA.setCell ⟨w.heap.size + 1 + 1, 0, none⟩ (.int .i64 mcall)).setCell ⟨w.heap.size + 1 + 1, 1, none⟩ (.int .i64 mst)).setCell ⟨w.heap.size + 1 + 1, 2, none⟩ (.int .i64 msince)).setCell ⟨w.heap.size + 1 + 1, 3, none⟩ (.int .i64 mcen)).setCell ⟨w.heap.size + 1 + 1, 4, none⟩ (.int .i64 mep)).setCell ⟨w.heap.size + 1 + 1, 5, none⟩ (.string mname)).setCell ⟨w.heap.size + 1 + 1, 6, none⟩ (.int .i64 mver)).setCell ⟨w.heap.size + 1 + 1, 7, none⟩ (.slice B3 mans.length d3)) = WW at hkB hrB hkC ⊢
              have v0 := hrB.at_ 0
              have v1 := hrB.at_ 1
              have v2 := hrB.at_ 2
              have v3 := hrB.at_ 3
              have v4 := hrB.at_ 4
              have v5 := hrB.at_ 5
              have v6 := hrB.at_ 6
              have v7 := hrB.at_ 7
              simp at v0 v1 v2 v3 v4 v5 v6 v7
              have hsz3 := HK3.out.size
              refine bodyPost_ret (v := .tuple #[.agg #[.int .i64 mcall, .int .i64 mst, .int .i64 msince, .int .i64 mcen, .int .i64 mep, .string mname, .int .i64 mver, .slice B3 mans.length d3], .bool (er1 == er2)]) (by simp [results, Try.results14, go_sem, v0, v1, v2, v3, v4, v5, v6, v7]) rfl ⟨r2, A2, c2, B3, d3, by simp [CL.cells], ?_, ?_, ?_, HG2.out⟩
              · exact (HL2.out.same HK3.out).keep hkC (fun hs => by omega) (fun g e hs => by
                  rcases HG3.out g e with e2 | e2
                  · have := HRL.out g e2; omega
                  · omega)
              · exact (HS3.out.keep hkC (fun i hi hs => .inr hs)).wide (fun _ _ e => .inl e)
              · exact (HK2.out.then HK3.out).trans hkC (fun i hi hs => by omega)
            · have gk5 : (k == (5 : Int)) = false := by simpa using hk5
              have hE1 : stepE s ⟨k, cen, n, ep, tk, tree⟩ = 0 := by simp [stepE, hk0, hk1, hk2, hk3, hk4, hk5]
              have hS1 : stepS s ⟨k, cen, n, ep, tk, tree⟩ = s := by simp [stepS, hk0, hk1, hk2, hk3, hk4, hk5]
              have hE2 : stepE m ⟨k, cen, n, ep, tk, tree⟩ = 0 := by simp [stepE, hk0, hk1, hk2, hk3, hk4, hk5]
              have hM2 : stepM m ⟨k, cen, n, ep, tk, tree⟩ = m := by simp [stepM, hk0, hk1, hk2, hk3, hk4, hk5]
              rw [hE1, hS1, hE2, hM2]
              clear hE1 hS1 hE2 hM2
              go_enter Try.func14, Try.ntmps14
              go_wp2_with fail
              refine bodyPost_ret (v := .tuple #[.agg #[.int .i64 m.call, .int .i64 m.st, .int .i64 m.since, .int .i64 m.cen, .int .i64 m.ep, .string m.name, .int .i64 m.ver, .slice B m.ans.length d], .bool true]) (by simp [results, Try.results14, go_sem]) rfl ⟨r, A, c, B, d, rfl, h.same ((((Keep.refl _ w).alloc _).alloc _).alloc _), hM.same ((((Keep.refl _ w).alloc _).alloc _).alloc _), (((Keep.refl _ w).alloc _).alloc _).alloc _, fun g e => .inl e⟩
end Go.Proofs.Ytkkenfgpmoediaa

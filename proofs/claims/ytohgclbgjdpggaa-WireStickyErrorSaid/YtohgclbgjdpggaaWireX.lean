import Derived.Test.YtohgclbgjdpggaaWireW
namespace Go.Proofs.Ytohgclbgjdpggaa
open Go.RowKit

/-- What the reference's Get leaves. -/
def TqPost (w : World) (rb : Nat) (Av : Nat → Prop) (t : Tg) (s : RS) (e : Ending) (w' : World) : Prop :=
  ∃ A n c x, e = .returned (.agg (Tm.cells x).toArray) ∧ x.pt = t ∧ TmOk w' (· < w.heap.size) x ∧ Rq w' rb Av A n c s ∧ Keep (· = rb) w w'
theorem keep5 (w2 : World) (g : Nat) (v0 v1 v2 v3 v4 : Value) : Keep (· = g) w2 (((((w2.setCell ⟨g, 0, none⟩ v0).setCell ⟨g, 1, none⟩ v1).setCell ⟨g, 2, none⟩ v2).setCell ⟨g, 3, none⟩ v3).setCell ⟨g, 4, none⟩ v4) :=
  (((((Keep.refl _ w2).put 0 _).put 1 _).put 2 _).put 3 _).put 4 _
/-- s[l:] of the reader's bytes -/
theorem Rq.adv {w : World} {rb : Nat} {Av : Nat → Prop} {A : Option Addr} {n c : Nat} {l : List UInt8} (h : Rq w rb Av A n c ⟨l, 0⟩) (k : Nat) (hk : k ≤ n) (A' : Option Addr) (c' : Nat) (hA : k < n → A' = A.map (·.add k)) (hc : n - k ≤ c') :
    Rq (w.setCell ⟨rb, 0, none⟩ (.slice A' (n - k) c')) rb Av A' (n - k) c' ⟨l.drop k, 0⟩ := by
  obtain ⟨hsl, hcap⟩ := h.sl rfl
  have hl : l.length = n := h.len rfl
  have hkk : Keep (· = rb) w (w.setCell ⟨rb, 0, none⟩ (.slice A' (n - k) c')) := (Keep.refl _ w).put _ _
  refine ⟨?_, fun _ => ⟨⟨?_, fun h0 => ?_⟩, hc⟩, h.av⟩
  · have := h.top.put 0 (.slice A' (n - k) c')
    simpa using this
  · rw [bcells_len, List.length_drop, hl]; omega
  · obtain ⟨b, off, rfl, hb, ha, hr⟩ := hsl.at_ (by omega)
    refine ⟨b, off + k, by rw [hA (by omega)]; simp [add_blk], by simpa using hb, ha, ?_⟩
    have hd := hr.drop k
    have e : (bcells l).drop k = bcells (l.drop k) := by simp [bcells, List.map_drop]
    rw [e] at hd
    exact hd.keep hkk hb (fun e => ha (.inr e))

section
variable (w : World) (rb : Nat) (Av : Nat → Prop) (A : Option Addr) (n c : Nat)

set_option maxHeartbeats 2000000 in
theorem get0_any (s : RS) (h : Rq w rb Av A n c s) (hsz : s.rest.length ≤ 1000000000) :
    Calls Try.prog 13 #[.pointer (some ⟨rb, 0, none⟩), .int .i64 0] w (TqPost w rb Av (getT 0 s).1 (getT 0 s).2) := by
  have hg : getT 0 s = (⟨0, (rdInt s).1, false, [], []⟩, (rdInt s).2) := by simp [getT]
  rw [hg]
  have hka : Same w ((w.alloc (.cells #[.int .i64 0, .int .i64 0, .bool false, .string ⟨#[]⟩, .slice none 0 0] 33)).alloc (.cells #[.int .i64 0, .int .i64 0, .bool false, .string ⟨#[]⟩, .slice none 0 0] 33)) := ((Keep.refl _ w).alloc _).alloc _
  have HR := hid ((h.wide (Av' := fun i => Av i ∨ i = w.heap.size ∨ i = w.heap.size + 1) (fun i hi hs => by rcases hs with hs | hs; exact hs; omega)).same hka)
  have hrb := h.top.lt
  have HC := hid (qInt_any _ rb (fun i => Av i ∨ i = w.heap.size ∨ i = w.heap.size + 1) A n c s HR.out hsz)
  have HB1 := hid ((Blk.made w 33 #[.int .i64 0, .int .i64 0, .bool false, .string ⟨#[]⟩, .slice none 0 0]).alloc (.cells #[.int .i64 0, .int .i64 0, .bool false, .string ⟨#[]⟩, .slice none 0 0] 33))
  have hb2 := Blk.made (w.alloc (.cells #[.int .i64 0, .int .i64 0, .bool false, .string ⟨#[]⟩, .slice none 0 0] 33)) 33 #[.int .i64 0, .int .i64 0, .bool false, .string ⟨#[]⟩, .slice none 0 0]
  rw [World.size_alloc] at hb2
  have HB2 := hid hb2
  have HK := hid hka
  clear h hg hka hb2
  generalize rdInt s = q at *
  obtain ⟨v, s1⟩ := q
  go_enter Try.func13, Try.ntmps13
  go_wp2_with fail
  refine HC.out.mono ?_
  rintro e w2 ⟨A2, n2, c2, rfl, g1, g2⟩
  have b1 := HB1.out.keep g2 (by omega)
  have b2 := HB2.out.keep g2 (by omega)
  have x0 : w2.cell? ⟨w.heap.size + 1, 0, none⟩ = some (.int .i64 0) := b2.at_ 0
  have x1 : w2.cell? ⟨w.heap.size + 1, 1, none⟩ = some (.int .i64 0) := b2.at_ 1
  have x2 : w2.cell? ⟨w.heap.size + 1, 2, none⟩ = some (.bool false) := b2.at_ 2
  have x3 : w2.cell? ⟨w.heap.size + 1, 3, none⟩ = some (.string ⟨#[]⟩) := b2.at_ 3
  have x4 : w2.cell? ⟨w.heap.size + 1, 4, none⟩ = some (.slice none 0 0) := b2.at_ 4
  have y0 : w2.cell? ⟨w.heap.size, 0, none⟩ = some (.int .i64 0) := b1.at_ 0
  have y1 : w2.cell? ⟨w.heap.size, 1, none⟩ = some (.int .i64 0) := b1.at_ 1
  have y2 : w2.cell? ⟨w.heap.size, 2, none⟩ = some (.bool false) := b1.at_ 2
  have y3 : w2.cell? ⟨w.heap.size, 3, none⟩ = some (.string ⟨#[]⟩) := b1.at_ 3
  have y4 : w2.cell? ⟨w.heap.size, 4, none⟩ = some (.slice none 0 0) := b1.at_ 4
  have f0 := b2.free
  have f1 := b1.free
  have z1 := b2.lt
  have hk9 : ∀ W', Keep (fun i => i = w.heap.size ∨ i = w.heap.size + 1) w2 W' → Rq W' rb Av A2 n2 c2 s1 ∧ Keep (· = rb) w W' := fun W' hk =>
    ⟨(g1.keep hk (fun i _ hs => .inr hs)).wide (fun _ _ h => .inl h), ((HK.out.wide (fun _ _ f => f.elim)).trans g2 (fun _ _ h => h)).trans hk (fun i hi hs => by omega)⟩
  have HK9 := hid hk9
  clear g1 g2 b1 b2 hk9 HC HR
  go_wp2
  refine bodyPost_ret (v := .agg (Tm.cells ⟨0, v, false, ⟨#[]⟩, none, 0, 0, []⟩).toArray) (by simp [results, Try.results13, go_sem, Tm.cells, y0, y1, y2, y3, y4]) rfl ?_
  exact ⟨A2, n2, c2, ⟨0, v, false, ⟨#[]⟩, none, 0, 0, []⟩, rfl, rfl, ⟨Sl.nil _ _ _ _⟩, (HK9.out _ (keep6 _ _ _ _ _ _ _ _ _)).1, (HK9.out _ (keep6 _ _ _ _ _ _ _ _ _)).2⟩

set_option maxRecDepth 100000 in
set_option maxHeartbeats 4000000 in
theorem get1_any (s : RS) (h : Rq w rb Av A n c s) (hsz : s.rest.length ≤ 1000000000) :
    Calls Try.prog 13 #[.pointer (some ⟨rb, 0, none⟩), .int .i64 1] w (TqPost w rb Av (getT 1 s).1 (getT 1 s).2) := by
  have hrb := h.top.lt
  obtain ⟨l, er⟩ := s
  have c0 : w.cell? ⟨rb, 0, none⟩ = some (.slice A n c) := h.top.at_ 0
  have c1 : w.cell? ⟨rb, 1, none⟩ = some (.int .i64 er) := h.top.at_ 1
  have f0 := h.top.free 0
  have f1 := h.top.free 1
  have H := hid h
  by_cases he : er = 0
  · subst he
    have hl := h.len rfl
    simp only at hl hsz
    cases l with
    | nil =>
      rw [show getT 1 ⟨[], 0⟩ = (zeroT 1, ⟨[], 11⟩) from rfl]
      have hn0 : n = 0 := by simpa using hl.symm
      subst hn0
      clear h hl
      go_enter Try.func13, Try.ntmps13
      go_wp2
      refine bodyPost_ret (v := .agg (Tm.cells ⟨1, 0, false, ⟨#[]⟩, none, 0, 0, []⟩).toArray) (by simp [results, Try.results13, go_sem, Tm.cells]) rfl ?_
      exact ⟨A, 0, c, ⟨1, 0, false, ⟨#[]⟩, none, 0, 0, []⟩, rfl, rfl, ⟨Sl.nil _ _ _ _⟩, (H.out.fail 11 (by omega)).same (((Keep.refl _ _).alloc _).alloc _), (((Keep.refl _ w).put _ _).alloc _).alloc _⟩
    | cons x l =>
      obtain ⟨hsl, hcap⟩ := h.sl rfl
      have hx := x.toNat_lt
      have hn : l.length + 1 = n := by simpa using hl
      have hn1z : 0 < n := by omega
      have hnb : n ≤ 1000000000 := by simp at hsz; omega
      obtain ⟨b, off, rfl, hb, _, hr⟩ := hsl.at_ (by omega)
      have q0 : w.cell? ⟨b, off, none⟩ = some (.int .u8 x.toNat) := hr 0 _ rfl
      have HAD := hid (fun A' c' hA hc => h.adv 1 (by omega) A' c' hA hc)
      clear hsl hr h hl hsz
      by_cases h2 : 1 < x.toNat
      · rw [show getT 1 ⟨x :: l, 0⟩ = (zeroT 1, ⟨[], 2⟩) by simp [getT, rdBool, h2, zeroT]]
        go_enter Try.func13, Try.ntmps13
        go_wp2
        refine bodyPost_ret (v := .agg (Tm.cells ⟨1, 0, false, ⟨#[]⟩, none, 0, 0, []⟩).toArray) (by simp [results, Try.results13, go_sem, Tm.cells]) rfl ?_
        exact ⟨_, n, c, ⟨1, 0, false, ⟨#[]⟩, none, 0, 0, []⟩, rfl, rfl, ⟨Sl.nil _ _ _ _⟩, (H.out.fail 2 (by omega)).same (((Keep.refl _ _).alloc _).alloc _), (((Keep.refl _ w).put _ _).alloc _).alloc _⟩
      · by_cases h1 : x.toNat = 1
        · rw [show getT 1 ⟨x :: l, 0⟩ = (⟨1, 0, true, [], []⟩, ⟨l, 0⟩) by simp [getT, rdBool, h1]]
          rw [h1] at q0
          clear h1 h2 hx
          by_cases hc : c = 1
          · have hn1 : n = 1 := by omega
            have hc1 := hid hc
            subst hn1
            subst hc
            go_enter Try.func13, Try.ntmps13
            go_wp2
            refine bodyPost_ret (v := .agg (Tm.cells ⟨1, 0, true, ⟨#[]⟩, none, 0, 0, []⟩).toArray) (by simp [results, Try.results13, go_sem, Tm.cells]) rfl ?_
            exact ⟨some ⟨b, off, none⟩, 0, 0, ⟨1, 0, true, ⟨#[]⟩, none, 0, 0, []⟩, rfl, rfl, ⟨Sl.nil _ _ _ _⟩, (HAD.out (some ⟨b, off, none⟩) 0 (by omega) (by omega)).same (((Keep.refl _ _).alloc _).alloc _), (((Keep.refl _ w).put _ _).alloc _).alloc _⟩
          · have hc' : ¬ (c : Int) = 1 := by omega
            go_enter Try.func13, Try.ntmps13
            go_wp2
            refine bodyPost_ret (v := .agg (Tm.cells ⟨1, 0, true, ⟨#[]⟩, none, 0, 0, []⟩).toArray) (by simp [results, Try.results13, go_sem, Tm.cells]) rfl ?_
            exact ⟨some ⟨b, off + 1, none⟩, n - 1, c - 1, ⟨1, 0, true, ⟨#[]⟩, none, 0, 0, []⟩, rfl, rfl, ⟨Sl.nil _ _ _ _⟩, (HAD.out _ _ (fun _ => rfl) (by omega)).same (((Keep.refl _ _).alloc _).alloc _), (((Keep.refl _ w).put _ _).alloc _).alloc _⟩
        · have h0 : x.toNat = 0 := by omega
          rw [show getT 1 ⟨x :: l, 0⟩ = (⟨1, 0, false, [], []⟩, ⟨l, 0⟩) by simp [getT, rdBool, h0]]
          rw [h0] at q0
          clear h0 h1 h2 hx
          by_cases hc : c = 1
          · have hn1 : n = 1 := by omega
            subst hn1
            subst hc
            go_enter Try.func13, Try.ntmps13
            go_wp2
            refine bodyPost_ret (v := .agg (Tm.cells ⟨1, 0, false, ⟨#[]⟩, none, 0, 0, []⟩).toArray) (by simp [results, Try.results13, go_sem, Tm.cells]) rfl ?_
            exact ⟨some ⟨b, off, none⟩, 0, 0, ⟨1, 0, false, ⟨#[]⟩, none, 0, 0, []⟩, rfl, rfl, ⟨Sl.nil _ _ _ _⟩, (HAD.out (some ⟨b, off, none⟩) 0 (by omega) (by omega)).same (((Keep.refl _ _).alloc _).alloc _), (((Keep.refl _ w).put _ _).alloc _).alloc _⟩
          · have hc' : ¬ (c : Int) = 1 := by omega
            go_enter Try.func13, Try.ntmps13
            go_wp2
            refine bodyPost_ret (v := .agg (Tm.cells ⟨1, 0, false, ⟨#[]⟩, none, 0, 0, []⟩).toArray) (by simp [results, Try.results13, go_sem, Tm.cells]) rfl ?_
            exact ⟨some ⟨b, off + 1, none⟩, n - 1, c - 1, ⟨1, 0, false, ⟨#[]⟩, none, 0, 0, []⟩, rfl, rfl, ⟨Sl.nil _ _ _ _⟩, (HAD.out _ _ (fun _ => rfl) (by omega)).same (((Keep.refl _ _).alloc _).alloc _), (((Keep.refl _ w).put _ _).alloc _).alloc _⟩
  · rw [show getT 1 ⟨l, er⟩ = (zeroT 1, ⟨l, er⟩) from getT_err 1 he]
    have he' : (er != 0) = true := by simpa using he
    clear he h
    go_enter Try.func13, Try.ntmps13
    go_wp2
    refine bodyPost_ret (v := .agg (Tm.cells ⟨1, 0, false, ⟨#[]⟩, none, 0, 0, []⟩).toArray) (by simp [results, Try.results13, go_sem, Tm.cells]) rfl ?_
    exact ⟨A, n, c, ⟨1, 0, false, ⟨#[]⟩, none, 0, 0, []⟩, rfl, rfl, ⟨Sl.nil _ _ _ _⟩, H.out.same (((Keep.refl _ _).alloc _).alloc _), ((Keep.refl _ w).alloc _).alloc _⟩
set_option maxRecDepth 100000 in
set_option maxHeartbeats 4000000 in
theorem get2_any (s : RS) (h : Rq w rb Av A n c s) (hsz : s.rest.length ≤ 1000000000) :
    Calls Try.prog 13 #[.pointer (some ⟨rb, 0, none⟩), .int .i64 2] w (TqPost w rb Av (getT 2 s).1 (getT 2 s).2) := by
  have hka : Same w ((w.alloc (.cells #[.int .i64 0, .int .i64 0, .bool false, .string ⟨#[]⟩, .slice none 0 0] 33)).alloc (.cells #[.int .i64 2, .int .i64 0, .bool false, .string ⟨#[]⟩, .slice none 0 0] 33)) := ((Keep.refl _ w).alloc _).alloc _
  have hR := (h.wide (Av' := fun i => Av i ∨ i = w.heap.size ∨ i = w.heap.size + 1) (fun i hi hs => by rcases hs with hs | hs; exact hs; omega)).same hka
  have hrb := h.top.lt
  have HB1 := hid ((Blk.made w 33 #[.int .i64 0, .int .i64 0, .bool false, .string ⟨#[]⟩, .slice none 0 0]).alloc (.cells #[.int .i64 2, .int .i64 0, .bool false, .string ⟨#[]⟩, .slice none 0 0] 33))
  have hb2 := Blk.made (w.alloc (.cells #[.int .i64 0, .int .i64 0, .bool false, .string ⟨#[]⟩, .slice none 0 0] 33)) 33 #[.int .i64 2, .int .i64 0, .bool false, .string ⟨#[]⟩, .slice none 0 0]
  rw [World.size_alloc] at hb2
  have HB2 := hid hb2
  have HK := hid hka
  have HC := hid (many_any _ rb (fun i => Av i ∨ i = w.heap.size ∨ i = w.heap.size + 1) A n c s hR hsz)
  have hlen := rdMany_len s
  have hfit := @rdMany_fit s
  rw [show getT 2 s = (⟨2, 0, false, (rdBytes s).1, []⟩, (rdBytes s).2) by simp [getT]]
  unfold rdBytes
  clear h hb2 hka hR
  generalize rdMany s = q at *
  obtain ⟨v, l1, e1⟩ := q
  simp only at HC hlen hfit ⊢
  by_cases he : e1 = 0
  · subst he
    obtain ⟨hv0, hv1⟩ := hfit rfl
    obtain ⟨kn, rfl⟩ := Int.eq_ofNat_of_zero_le hv0
    rw [if_neg (by simp)]
    simp only [Int.toNat_natCast]
    clear hfit hv0
    go_enter Try.func13, Try.ntmps13
    go_wp2_with fail
    refine HC.out.mono ?_
    rintro e w2 ⟨A2, n2, c2, rfl, g1, g2⟩
    have b1 := HB1.out.keep g2 (by omega)
    have b2 := HB2.out.keep g2 (by omega)
    have x0 : w2.cell? ⟨w.heap.size + 1, 0, none⟩ = some (.int .i64 2) := b2.at_ 0
    have x1 : w2.cell? ⟨w.heap.size + 1, 1, none⟩ = some (.int .i64 0) := b2.at_ 1
    have x2 : w2.cell? ⟨w.heap.size + 1, 2, none⟩ = some (.bool false) := b2.at_ 2
    have x3 : w2.cell? ⟨w.heap.size + 1, 3, none⟩ = some (.string ⟨#[]⟩) := b2.at_ 3
    have x4 : w2.cell? ⟨w.heap.size + 1, 4, none⟩ = some (.slice none 0 0) := b2.at_ 4
    have y0 : w2.cell? ⟨w.heap.size, 0, none⟩ = some (.int .i64 0) := b1.at_ 0
    have y1 : w2.cell? ⟨w.heap.size, 1, none⟩ = some (.int .i64 0) := b1.at_ 1
    have y2 : w2.cell? ⟨w.heap.size, 2, none⟩ = some (.bool false) := b1.at_ 2
    have y3 : w2.cell? ⟨w.heap.size, 3, none⟩ = some (.string ⟨#[]⟩) := b1.at_ 3
    have y4 : w2.cell? ⟨w.heap.size, 4, none⟩ = some (.slice none 0 0) := b1.at_ 4
    have f0 := b2.free
    have f1 := b1.free
    have z1 := b2.lt
    have c0 : w2.cell? ⟨rb, 0, none⟩ = some (.slice A2 n2 c2) := g1.top.at_ 0
    have c1 : w2.cell? ⟨rb, 1, none⟩ = some (.int .i64 0) := g1.top.at_ 1
    have fr := g1.top.free 0
    have hrb2 := g1.top.lt
    obtain ⟨hsl, hcap⟩ := g1.sl rfl
    have hl2 : l1.length = n2 := g1.len rfl
    have hkn : kn ≤ n2 := by omega
    have hkc : kn ≤ c2 := by omega
    have hn2 : n2 ≤ 1000000000 := by omega
    have hst := hsl.take kn hkn
    rw [Nat.mul_one, show (bcells l1).take kn = bcells (l1.take kn) by simp [bcells, List.map_take]] at hst
    have hcv := conv_str w2 _ A2 kn c2 (l1.take kn) hst
    have G1 := hid g1
    have HG2 := hid g2
    have Hl2 := hid hl2
    have hA2 : 0 < n2 → ∃ b off, A2 = some ⟨b, off, none⟩ := fun h0 => by obtain ⟨b, off, e, _⟩ := hsl.at_ h0; exact ⟨b, off, e⟩
    have HA2 := hid hA2
    clear g1 g2 b1 b2 hsl hst hl2 hv1 hlen HC hA2
    have hfin : ∀ (A' : Option Addr) (c' : Nat) (v0 v1 v2 v3 v4 : Value), (kn < n2 → A' = A2.map (·.add kn)) → n2 - kn ≤ c' → ∀ W', W' = ((((((w2.setCell ⟨w.heap.size + 1, 3, none⟩ (.string (strOf (l1.take kn)))).setCell ⟨rb, 0, none⟩ (.slice A' (n2 - kn) c')).setCell ⟨w.heap.size, 0, none⟩ v0).setCell ⟨w.heap.size, 1, none⟩ v1).setCell ⟨w.heap.size, 2, none⟩ v2).setCell ⟨w.heap.size, 3, none⟩ v3).setCell ⟨w.heap.size, 4, none⟩ v4 →
        TqPost w rb Av ⟨2, 0, false, l1.take kn, []⟩ ⟨l1.drop kn, 0⟩ (.returned (.agg (Tm.cells ⟨2, 0, false, strOf (l1.take kn), none, 0, 0, []⟩).toArray)) W' := by
      rintro A' c' v0 v1 v2 v3 v4 hA hc W' rfl
      have ha := (G1.out.keep (S := (· = w.heap.size + 1)) ((Keep.refl _ w2).put 3 (.string (strOf (l1.take kn)))) (fun i _ e => .inr (.inr e))).adv kn hkn A' c' hA hc
      have hk5 := keep5 ((w2.setCell ⟨w.heap.size + 1, 3, none⟩ (.string (strOf (l1.take kn)))).setCell ⟨rb, 0, none⟩ (.slice A' (n2 - kn) c')) w.heap.size v0 v1 v2 v3 v4
      refine ⟨A', n2 - kn, c', _, rfl, by simp [Tm.pt, strOf_list], ⟨Sl.nil _ _ _ _⟩, ?_, ?_⟩
      · exact (ha.keep hk5 (fun i _ e => .inr (.inl e))).wide (fun _ _ h => .inl h)
      · have h1 := ((HK.out.wide (T := (· = rb)) (fun _ _ f => f.elim)).trans HG2.out (fun _ _ h => h)).trans ((Keep.refl (· = w.heap.size + 1) w2).put 3 (.string (strOf (l1.take kn)))) (fun i hi e => by omega)
        have h2 := h1.put 0 (.slice A' (n2 - kn) c')
        exact h2.trans hk5 (fun i hi e => by omega)
    have HF := hid hfin
    clear hfin
    by_cases hc : c2 = kn
    · have hn : n2 = kn := by omega
      subst hn
      subst hc
      go_wp2
      refine bodyPost_ret (v := .agg (Tm.cells ⟨2, 0, false, strOf (l1.take c2), none, 0, 0, []⟩).toArray) (by simp [results, Try.results13, go_sem, Tm.cells, y0, y1, y2, y3, y4]) rfl ?_
      have hz := HF.out A2 0 (.int .i64 2) (.int .i64 0) (.bool false) (.string (strOf (l1.take c2))) (.slice none 0 0) (by omega) (by omega) _ rfl
      rw [Nat.sub_self] at hz
      exact hz
    · have hc' : ¬ (c2 : Int) = kn := by omega
      by_cases hnk : kn < n2
      · obtain ⟨b, off, rfl⟩ := HA2.out (by omega)
        go_wp2
        refine bodyPost_ret (v := .agg (Tm.cells ⟨2, 0, false, strOf (l1.take kn), none, 0, 0, []⟩).toArray) (by simp [results, Try.results13, go_sem, Tm.cells, y0, y1, y2, y3, y4]) rfl ?_
        exact HF.out (some ⟨b, off + kn, none⟩) (c2 - kn) (.int .i64 2) (.int .i64 0) (.bool false) (.string (strOf (l1.take kn))) (.slice none 0 0) (fun _ => by simp [add_blk]) (by omega) _ rfl
      · have hnk2 : n2 = kn := by omega
        subst hnk2
        cases A2 with
        | none =>
          go_wp2
          refine bodyPost_ret (v := .agg (Tm.cells ⟨2, 0, false, strOf (l1.take n2), none, 0, 0, []⟩).toArray) (by simp [results, Try.results13, go_sem, Tm.cells, y0, y1, y2, y3, y4]) rfl ?_
          have hz := HF.out none (c2 - n2) (.int .i64 2) (.int .i64 0) (.bool false) (.string (strOf (l1.take n2))) (.slice none 0 0) (by omega) (by omega) _ rfl
          rw [Nat.sub_self] at hz
          exact hz
        | some ad =>
          go_wp2
          refine bodyPost_ret (v := .agg (Tm.cells ⟨2, 0, false, strOf (l1.take n2), none, 0, 0, []⟩).toArray) (by simp [results, Try.results13, go_sem, Tm.cells, y0, y1, y2, y3, y4]) rfl ?_
          have hz := HF.out (some (ad.add n2)) (c2 - n2) (.int .i64 2) (.int .i64 0) (.bool false) (.string (strOf (l1.take n2))) (.slice none 0 0) (by omega) (by omega) _ rfl
          rw [Nat.sub_self] at hz
          first | exact hz | simpa using hz
  · rw [if_pos he]
    have he' : (e1 == 0) = false := by simpa using he
    clear he hfit
    go_enter Try.func13, Try.ntmps13
    go_wp2_with fail
    refine HC.out.mono ?_
    rintro e w2 ⟨A2, n2, c2, rfl, g1, g2⟩
    have b1 := HB1.out.keep g2 (by omega)
    have b2 := HB2.out.keep g2 (by omega)
    have x0 : w2.cell? ⟨w.heap.size + 1, 0, none⟩ = some (.int .i64 2) := b2.at_ 0
    have x1 : w2.cell? ⟨w.heap.size + 1, 1, none⟩ = some (.int .i64 0) := b2.at_ 1
    have x2 : w2.cell? ⟨w.heap.size + 1, 2, none⟩ = some (.bool false) := b2.at_ 2
    have x3 : w2.cell? ⟨w.heap.size + 1, 3, none⟩ = some (.string ⟨#[]⟩) := b2.at_ 3
    have x4 : w2.cell? ⟨w.heap.size + 1, 4, none⟩ = some (.slice none 0 0) := b2.at_ 4
    have y0 : w2.cell? ⟨w.heap.size, 0, none⟩ = some (.int .i64 0) := b1.at_ 0
    have y1 : w2.cell? ⟨w.heap.size, 1, none⟩ = some (.int .i64 0) := b1.at_ 1
    have y2 : w2.cell? ⟨w.heap.size, 2, none⟩ = some (.bool false) := b1.at_ 2
    have y3 : w2.cell? ⟨w.heap.size, 3, none⟩ = some (.string ⟨#[]⟩) := b1.at_ 3
    have y4 : w2.cell? ⟨w.heap.size, 4, none⟩ = some (.slice none 0 0) := b1.at_ 4
    have f0 := b2.free
    have f1 := b1.free
    have z1 := b2.lt
    have c1 : w2.cell? ⟨rb, 1, none⟩ = some (.int .i64 e1) := g1.top.at_ 1
    have hrb2 := g1.top.lt
    have G1 := hid g1
    have HG2 := hid g2
    clear g1 g2 b1 b2 HC
    go_wp2
    refine bodyPost_ret (v := .agg (Tm.cells ⟨2, 0, false, ⟨#[]⟩, none, 0, 0, []⟩).toArray) (by simp [results, Try.results13, go_sem, Tm.cells, y0, y1, y2, y3, y4]) rfl ?_
    exact ⟨A2, n2, c2, ⟨2, 0, false, ⟨#[]⟩, none, 0, 0, []⟩, rfl, rfl, ⟨Sl.nil _ _ _ _⟩, (G1.out.keep (keep5 _ _ _ _ _ _ _) (fun i _ e => .inr (.inl e))).wide (fun _ _ h => .inl h), ((HK.out.wide (T := (· = rb)) (fun _ _ f => f.elim)).trans HG2.out (fun _ _ h => h)).trans (keep5 _ _ _ _ _ _ _) (fun i hi e => by omega)⟩
set_option maxRecDepth 100000 in
set_option maxHeartbeats 4000000 in
theorem get3_any (s : RS) (h : Rq w rb Av A n c s) (hsz : s.rest.length ≤ 1000000000) :
    Calls Try.prog 13 #[.pointer (some ⟨rb, 0, none⟩), .int .i64 3] w (TqPost w rb Av (getT 3 s).1 (getT 3 s).2) := by
  have hka : Same w ((w.alloc (.cells #[.int .i64 0, .int .i64 0, .bool false, .string ⟨#[]⟩, .slice none 0 0] 33)).alloc (.cells #[.int .i64 3, .int .i64 0, .bool false, .string ⟨#[]⟩, .slice none 0 0] 33)) := ((Keep.refl _ w).alloc _).alloc _
  have hR := (h.wide (Av' := fun i => Av i ∨ i = w.heap.size ∨ i = w.heap.size + 1) (fun i hi hs => by rcases hs with hs | hs; exact hs; omega)).same hka
  have hrb := h.top.lt
  have HB1 := hid ((Blk.made w 33 #[.int .i64 0, .int .i64 0, .bool false, .string ⟨#[]⟩, .slice none 0 0]).alloc (.cells #[.int .i64 3, .int .i64 0, .bool false, .string ⟨#[]⟩, .slice none 0 0] 33))
  have hb2 := Blk.made (w.alloc (.cells #[.int .i64 0, .int .i64 0, .bool false, .string ⟨#[]⟩, .slice none 0 0] 33)) 33 #[.int .i64 3, .int .i64 0, .bool false, .string ⟨#[]⟩, .slice none 0 0]
  rw [World.size_alloc] at hb2
  have HB2 := hid hb2
  have HK := hid hka
  have HC := hid (many_any _ rb (fun i => Av i ∨ i = w.heap.size ∨ i = w.heap.size + 1) A n c s hR hsz)
  have hlen := rdMany_len s
  have hfit := @rdMany_fit s
  rw [show getT 3 s = (⟨3, 0, false, (rdBytes s).1, []⟩, (rdBytes s).2) by simp [getT]]
  unfold rdBytes
  clear h hb2 hka hR
  generalize rdMany s = q at *
  obtain ⟨v, l1, e1⟩ := q
  simp only at HC hlen hfit ⊢
  by_cases he : e1 = 0
  · subst he
    obtain ⟨hv0, hv1⟩ := hfit rfl
    obtain ⟨kn, rfl⟩ := Int.eq_ofNat_of_zero_le hv0
    rw [if_neg (by simp)]
    simp only [Int.toNat_natCast]
    clear hfit hv0
    go_enter Try.func13, Try.ntmps13
    go_wp2_with fail
    refine HC.out.mono ?_
    rintro e w2 ⟨A2, n2, c2, rfl, g1, g2⟩
    have b1 := HB1.out.keep g2 (by omega)
    have b2 := HB2.out.keep g2 (by omega)
    have x0 : w2.cell? ⟨w.heap.size + 1, 0, none⟩ = some (.int .i64 3) := b2.at_ 0
    have x1 : w2.cell? ⟨w.heap.size + 1, 1, none⟩ = some (.int .i64 0) := b2.at_ 1
    have x2 : w2.cell? ⟨w.heap.size + 1, 2, none⟩ = some (.bool false) := b2.at_ 2
    have x3 : w2.cell? ⟨w.heap.size + 1, 3, none⟩ = some (.string ⟨#[]⟩) := b2.at_ 3
    have x4 : w2.cell? ⟨w.heap.size + 1, 4, none⟩ = some (.slice none 0 0) := b2.at_ 4
    have y0 : w2.cell? ⟨w.heap.size, 0, none⟩ = some (.int .i64 0) := b1.at_ 0
    have y1 : w2.cell? ⟨w.heap.size, 1, none⟩ = some (.int .i64 0) := b1.at_ 1
    have y2 : w2.cell? ⟨w.heap.size, 2, none⟩ = some (.bool false) := b1.at_ 2
    have y3 : w2.cell? ⟨w.heap.size, 3, none⟩ = some (.string ⟨#[]⟩) := b1.at_ 3
    have y4 : w2.cell? ⟨w.heap.size, 4, none⟩ = some (.slice none 0 0) := b1.at_ 4
    have f0 := b2.free
    have f1 := b1.free
    have z1 := b2.lt
    have c0 : w2.cell? ⟨rb, 0, none⟩ = some (.slice A2 n2 c2) := g1.top.at_ 0
    have c1 : w2.cell? ⟨rb, 1, none⟩ = some (.int .i64 0) := g1.top.at_ 1
    have fr := g1.top.free 0
    have hrb2 := g1.top.lt
    obtain ⟨hsl, hcap⟩ := g1.sl rfl
    have hl2 : l1.length = n2 := g1.len rfl
    have hkn : kn ≤ n2 := by omega
    have hkc : kn ≤ c2 := by omega
    have hn2 : n2 ≤ 1000000000 := by omega
    have hst := hsl.take kn hkn
    rw [Nat.mul_one, show (bcells l1).take kn = bcells (l1.take kn) by simp [bcells, List.map_take]] at hst
    have hcv := conv_str w2 _ A2 kn c2 (l1.take kn) hst
    have G1 := hid g1
    have HG2 := hid g2
    have Hl2 := hid hl2
    have hA2 : 0 < n2 → ∃ b off, A2 = some ⟨b, off, none⟩ := fun h0 => by obtain ⟨b, off, e, _⟩ := hsl.at_ h0; exact ⟨b, off, e⟩
    have HA2 := hid hA2
    clear g1 g2 b1 b2 hsl hst hl2 hv1 hlen HC hA2
    have hfin : ∀ (A' : Option Addr) (c' : Nat) (v0 v1 v2 v3 v4 : Value), (kn < n2 → A' = A2.map (·.add kn)) → n2 - kn ≤ c' → ∀ W', W' = ((((((w2.setCell ⟨w.heap.size + 1, 3, none⟩ (.string (strOf (l1.take kn)))).setCell ⟨rb, 0, none⟩ (.slice A' (n2 - kn) c')).setCell ⟨w.heap.size, 0, none⟩ v0).setCell ⟨w.heap.size, 1, none⟩ v1).setCell ⟨w.heap.size, 2, none⟩ v2).setCell ⟨w.heap.size, 3, none⟩ v3).setCell ⟨w.heap.size, 4, none⟩ v4 →
        TqPost w rb Av ⟨3, 0, false, l1.take kn, []⟩ ⟨l1.drop kn, 0⟩ (.returned (.agg (Tm.cells ⟨3, 0, false, strOf (l1.take kn), none, 0, 0, []⟩).toArray)) W' := by
      rintro A' c' v0 v1 v2 v3 v4 hA hc W' rfl
      have ha := (G1.out.keep (S := (· = w.heap.size + 1)) ((Keep.refl _ w2).put 3 (.string (strOf (l1.take kn)))) (fun i _ e => .inr (.inr e))).adv kn hkn A' c' hA hc
      have hk5 := keep5 ((w2.setCell ⟨w.heap.size + 1, 3, none⟩ (.string (strOf (l1.take kn)))).setCell ⟨rb, 0, none⟩ (.slice A' (n2 - kn) c')) w.heap.size v0 v1 v2 v3 v4
      refine ⟨A', n2 - kn, c', _, rfl, by simp [Tm.pt, strOf_list], ⟨Sl.nil _ _ _ _⟩, ?_, ?_⟩
      · exact (ha.keep hk5 (fun i _ e => .inr (.inl e))).wide (fun _ _ h => .inl h)
      · have h1 := ((HK.out.wide (T := (· = rb)) (fun _ _ f => f.elim)).trans HG2.out (fun _ _ h => h)).trans ((Keep.refl (· = w.heap.size + 1) w2).put 3 (.string (strOf (l1.take kn)))) (fun i hi e => by omega)
        have h2 := h1.put 0 (.slice A' (n2 - kn) c')
        exact h2.trans hk5 (fun i hi e => by omega)
    have HF := hid hfin
    clear hfin
    by_cases hc : c2 = kn
    · have hn : n2 = kn := by omega
      subst hn
      subst hc
      go_wp2
      refine bodyPost_ret (v := .agg (Tm.cells ⟨3, 0, false, strOf (l1.take c2), none, 0, 0, []⟩).toArray) (by simp [results, Try.results13, go_sem, Tm.cells, y0, y1, y2, y3, y4]) rfl ?_
      have hz := HF.out A2 0 (.int .i64 3) (.int .i64 0) (.bool false) (.string (strOf (l1.take c2))) (.slice none 0 0) (by omega) (by omega) _ rfl
      rw [Nat.sub_self] at hz
      exact hz
    · have hc' : ¬ (c2 : Int) = kn := by omega
      by_cases hnk : kn < n2
      · obtain ⟨b, off, rfl⟩ := HA2.out (by omega)
        go_wp2
        refine bodyPost_ret (v := .agg (Tm.cells ⟨3, 0, false, strOf (l1.take kn), none, 0, 0, []⟩).toArray) (by simp [results, Try.results13, go_sem, Tm.cells, y0, y1, y2, y3, y4]) rfl ?_
        exact HF.out (some ⟨b, off + kn, none⟩) (c2 - kn) (.int .i64 3) (.int .i64 0) (.bool false) (.string (strOf (l1.take kn))) (.slice none 0 0) (fun _ => by simp [add_blk]) (by omega) _ rfl
      · have hnk2 : n2 = kn := by omega
        subst hnk2
        cases A2 with
        | none =>
          go_wp2
          refine bodyPost_ret (v := .agg (Tm.cells ⟨3, 0, false, strOf (l1.take n2), none, 0, 0, []⟩).toArray) (by simp [results, Try.results13, go_sem, Tm.cells, y0, y1, y2, y3, y4]) rfl ?_
          have hz := HF.out none (c2 - n2) (.int .i64 3) (.int .i64 0) (.bool false) (.string (strOf (l1.take n2))) (.slice none 0 0) (by omega) (by omega) _ rfl
          rw [Nat.sub_self] at hz
          exact hz
        | some ad =>
          go_wp2
          refine bodyPost_ret (v := .agg (Tm.cells ⟨3, 0, false, strOf (l1.take n2), none, 0, 0, []⟩).toArray) (by simp [results, Try.results13, go_sem, Tm.cells, y0, y1, y2, y3, y4]) rfl ?_
          have hz := HF.out (some (ad.add n2)) (c2 - n2) (.int .i64 3) (.int .i64 0) (.bool false) (.string (strOf (l1.take n2))) (.slice none 0 0) (by omega) (by omega) _ rfl
          rw [Nat.sub_self] at hz
          first | exact hz | simpa using hz
  · rw [if_pos he]
    have he' : (e1 == 0) = false := by simpa using he
    clear he hfit
    go_enter Try.func13, Try.ntmps13
    go_wp2_with fail
    refine HC.out.mono ?_
    rintro e w2 ⟨A2, n2, c2, rfl, g1, g2⟩
    have b1 := HB1.out.keep g2 (by omega)
    have b2 := HB2.out.keep g2 (by omega)
    have x0 : w2.cell? ⟨w.heap.size + 1, 0, none⟩ = some (.int .i64 3) := b2.at_ 0
    have x1 : w2.cell? ⟨w.heap.size + 1, 1, none⟩ = some (.int .i64 0) := b2.at_ 1
    have x2 : w2.cell? ⟨w.heap.size + 1, 2, none⟩ = some (.bool false) := b2.at_ 2
    have x3 : w2.cell? ⟨w.heap.size + 1, 3, none⟩ = some (.string ⟨#[]⟩) := b2.at_ 3
    have x4 : w2.cell? ⟨w.heap.size + 1, 4, none⟩ = some (.slice none 0 0) := b2.at_ 4
    have y0 : w2.cell? ⟨w.heap.size, 0, none⟩ = some (.int .i64 0) := b1.at_ 0
    have y1 : w2.cell? ⟨w.heap.size, 1, none⟩ = some (.int .i64 0) := b1.at_ 1
    have y2 : w2.cell? ⟨w.heap.size, 2, none⟩ = some (.bool false) := b1.at_ 2
    have y3 : w2.cell? ⟨w.heap.size, 3, none⟩ = some (.string ⟨#[]⟩) := b1.at_ 3
    have y4 : w2.cell? ⟨w.heap.size, 4, none⟩ = some (.slice none 0 0) := b1.at_ 4
    have f0 := b2.free
    have f1 := b1.free
    have z1 := b2.lt
    have c1 : w2.cell? ⟨rb, 1, none⟩ = some (.int .i64 e1) := g1.top.at_ 1
    have hrb2 := g1.top.lt
    have G1 := hid g1
    have HG2 := hid g2
    clear g1 g2 b1 b2 HC
    go_wp2
    refine bodyPost_ret (v := .agg (Tm.cells ⟨3, 0, false, ⟨#[]⟩, none, 0, 0, []⟩).toArray) (by simp [results, Try.results13, go_sem, Tm.cells, y0, y1, y2, y3, y4]) rfl ?_
    exact ⟨A2, n2, c2, ⟨3, 0, false, ⟨#[]⟩, none, 0, 0, []⟩, rfl, rfl, ⟨Sl.nil _ _ _ _⟩, (G1.out.keep (keep5 _ _ _ _ _ _ _) (fun i _ e => .inr (.inl e))).wide (fun _ _ h => .inl h), ((HK.out.wide (T := (· = rb)) (fun _ _ f => f.elim)).trans HG2.out (fun _ _ h => h)).trans (keep5 _ _ _ _ _ _ _) (fun i hi e => by omega)⟩
end
end Go.Proofs.Ytohgclbgjdpggaa

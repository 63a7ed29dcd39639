import Derived.Test.YtmllpapkgfclkaaTpW
import Derived.Test.YtmllpapkgfclkaaTpV
import Derived.Test.YtmllpapkgfclkaaTpRb
import Derived.Sort.CutIn
import Derived.BigQuiet
namespace Go.Proofs.Ytmllpapkgfclkaa
open Go.RowKit Go.Shelf

attribute [local go_sem] Oper.semAt_some

/-! ## Path -/
def up (v : Int) : Int := if v = INF then INF else v * 8192 + 1
def upL (times : List Int) (m : Nat) : List Int := (List.range m).map (fun i => up (ttA times i))
def part2 (f g : Nat → Int) (m k : Nat) : List Value := (List.range m).map fun i => .int .i64 (if i < k then f i else g i)
theorem part2_len (f g : Nat → Int) (m k : Nat) : (part2 f g m k).length = m := by simp [part2]
theorem part2_at (f g : Nat → Int) (m k i : Nat) (h : i < m) : (part2 f g m k)[i]? = some (.int .i64 (if i < k then f i else g i)) := by simp [part2, h]
theorem part2_zero (f g : Nat → Int) (m : Nat) : part2 f g m 0 = icellsC ((List.range m).map g) := by
  unfold part2 icellsC
  rw [List.map_map]
  refine List.map_congr_left fun i hi => ?_
  rw [if_neg (Nat.not_lt_zero _)]; rfl
theorem part2_all (f g : Nat → Int) (m : Nat) : part2 f g m m = icellsC ((List.range m).map f) := by
  unfold part2 icellsC
  rw [List.map_map]
  refine List.map_congr_left fun i hi => ?_
  rw [if_pos (List.mem_range.1 hi)]; rfl
theorem part2_set (f g : Nat → Int) (m k : Nat) (h : k < m) : (part2 f g m k).set k (.int .i64 (f k)) = part2 f g m (k + 1) := by
  apply List.ext_getElem?
  intro i
  rw [List.getElem?_set]
  rcases Nat.lt_or_ge i m with hi | hi
  · by_cases e : k = i
    · subst e
      rw [if_pos rfl, if_pos (by rw [part2_len]; exact h), part2_at _ _ _ _ _ hi]; simp
    · rw [if_neg e, part2_at _ _ _ _ _ hi, part2_at _ _ _ _ _ hi]
      by_cases h2 : i < k
      · rw [if_pos h2, if_pos (by omega)]
      · rw [if_neg h2, if_neg (by omega)]
  · have h1 : (part2 f g m k)[i]? = none := List.getElem?_eq_none (by rw [part2_len]; exact hi)
    have h2 : (part2 f g m (k + 1))[i]? = none := List.getElem?_eq_none (by rw [part2_len]; exact hi)
    rw [h1, h2]
    by_cases e : k = i
    · omega
    · rw [if_neg e]
theorem part2_skip (f g : Nat → Int) (m k : Nat) (h : f k = g k) : part2 f g m k = part2 f g m (k + 1) := by
  unfold part2
  refine List.map_congr_left fun i _ => ?_
  by_cases e : i = k
  · subst e
    rw [if_neg (by omega), if_pos (by omega), h]
  · by_cases h2 : i < k
    · rw [if_pos h2, if_pos (by omega)]
    · rw [if_neg h2, if_neg (by omega)]
theorem up_ok (times : List Int) (i : Nat) : up (ttA times i) ≠ INF → 1 ≤ up (ttA times i) ∧ up (ttA times i) ≤ 8589934593 := by
  unfold up
  split
  · intro h; exact absurd rfl h
  · rename_i h
    intro _
    have := ttA_ok times i h
    omega
theorem upL_at {times : List Int} {m i : Nat} {v : Int} (h : (upL times m)[i]? = some v) : v = up (ttA times i) := by
  have hi := (List.getElem?_eq_some_iff.1 h).1
  have hi2 : i < m := by simpa [upL] using hi
  have : (upL times m)[i]? = some (up (ttA times i)) := by simp [upL, hi2]
  rw [this] at h
  injection h with h
  exact h.symm
theorem up_wg {N : Nat} {l : List E3} (times : List Int) (hN : N ≤ 8) (hok : ∀ e ∈ l, (0 ≤ e.a ∧ e.a < N) ∧ (0 ≤ e.b ∧ e.b < N)) : (wgB N l (upL times l.length)).Ok 8589934593 :=
  (wg_ok hok (fun i _ v hv hne => by
    have := upL_at hv
    subst this
    exact up_ok times i hne) (by omega) (by omega)).2
/-- Behind the search. -/
structure PS (w W : World) (g s h R h6 R6 N : Nat) (l : List E3) (times : List Int) (D : Nat → Int) : Prop where
  b4 : Blk W s 26 #[.pointer (some ⟨g, 0, none⟩)]
  bh : Blk W h 35 #[.slice (some ⟨R, 0, none⟩) l.length l.length]
  bR : Blk W R 2 (icellsC (upL times l.length)).toArray
  b6 : Blk W h6 35 #[.slice (some ⟨R6, 0, none⟩) N N]
  bD : Blk W R6 2 (distL N D).toArray
  same : Same w W
  hs : w.heap.size = s
  lt : s < h6 ∧ h < h6 ∧ R < h6 ∧ R6 < h6
  top : h6 < W.heap.size
theorem PS.keep {S : Nat → Prop} {w W W' : World} {g s h R h6 R6 N : Nat} {l : List E3} {times : List Int} {D : Nat → Int} (H : PS w W g s h R h6 R6 N l times D) (hk : Keep S W W') (hS : ∀ i, S i → h6 < i) : PS w W' g s h R h6 R6 N l times D := by
  obtain ⟨l1, l2, l3, l4⟩ := H.lt
  have hs := H.hs
  exact ⟨H.b4.keep hk (fun e => by have := hS _ e; omega), H.bh.keep hk (fun e => by have := hS _ e; omega), H.bR.keep hk (fun e => by have := hS _ e; omega), H.b6.keep hk (fun e => by have := hS _ e; omega), H.bD.keep hk (fun e => by have := hS _ e; omega),
    H.same.trans hk (fun i hi e => by have := hS _ e; omega), H.hs, H.lt, Nat.lt_of_lt_of_le H.top hk.size⟩
/-- An edge that the walk may take from node x. -/
def Fit (l : List E3) (times : List Int) (D : Nat → Int) (x : Int) (i : Nat) : Prop := ∃ e, l[i]? = some e ∧ e.a = x ∧ up (ttA times i) ≠ INF ∧ up (ttA times i) + D e.b.toNat = D x.toNat
/-- What Path returns: nothing, or a walk that goes down the distances. -/
def PathPost (w : World) (l : List E3) (N a b : Nat) (times : List Int) (e : Ending) (w' : World) : Prop := ∃ D, IsDist (wgB N l (upL times l.length)) b D ∧ Same w w' ∧
  ((D a = INF ∧ e = .returned (.tuple #[.slice none 0 0, .int .i64 0, .bool false])) ∨
   (D a ≠ INF ∧ ∃ A c P nu, e = .returned (.tuple #[.slice A P.length c, .int .i64 (D a / 8192), .bool true]) ∧ Sl w' (fun _ => False) 1 A P.length (icellsC (wayL P)) ∧ P.length ≤ 16384 ∧ Way l a b P nu ∧ ∀ k i, P[k]? = some i → Fit l times D (nu k) i))
set_option maxRecDepth 100000 in
set_option maxHeartbeats 4000000 in
/-- Between two steps of the walk. -/
structure PW (w W : World) (g s h R h6 R6 N : Nat) (l : List E3) (times : List Int) (D : Nat → Int) (a x : Nat) (P : List Nat) (A : Option Addr) (c xb : Nat) (ds : List Nat) (nu : Nat → Int) : Prop where
  ps : PS w W g s h R h6 R6 N l times D
  wh : Blk W (h6 + 1) 39 #[.slice A P.length c]
  wo : Own W (h6 + 2) 3 1 (.slice A P.length c) P.length (icellsC (wayL P))
  nb : Blk W xb 3 #[.int .i64 x]
  xl : h6 + 1 < xb
  ax : ∀ i, A.map (·.block) = some i → i ≠ xb
  mks : Marks W ds
  md : ∀ E ∈ ds, h6 + 1 < E
  top : h6 + 2 ≤ W.heap.size
  xN : x < N
  fx : D x ≠ INF
  len : P.length + near D (D x) N ≤ N
  way : Way l a x P nu
  fit : ∀ k i, P[k]? = some i → Fit l times D (nu k) i
theorem PW.start {w W : World} {g s h R h6 R6 N : Nat} {l : List E3} {times : List Int} {D : Nat → Int} {a : Nat} (H : PS w W g s h R h6 R6 N l times D) (hsz : W.heap.size = h6 + 1) (ha : a < N) (hd : D a ≠ INF) :
    PW w ((W.alloc (.cells #[.slice none 0 0] 39)).alloc (.cells #[.int .i64 (a : Int)] 3)) g s h R h6 R6 N l times D a a [] none 0 (h6 + 2) [] (fun _ => a) := by
  have k1 : Same W (W.alloc (.cells #[.slice none 0 0] 39)) := (Keep.refl _ W).alloc _
  have k2 : Same (W.alloc (.cells #[.slice none 0 0] 39)) ((W.alloc (.cells #[.slice none 0 0] 39)).alloc (.cells #[.int .i64 (a : Int)] 3)) := (Keep.refl _ _).alloc _
  have b1 := Blk.made W 39 #[.slice none 0 0]
  have b2 := Blk.made (W.alloc (.cells #[.slice none 0 0] 39)) 3 #[.int .i64 (a : Int)]
  rw [hsz] at b1
  rw [World.size_alloc, hsz] at b2
  exact ⟨(H.keep k1 (fun _ f => f.elim)).keep k2 (fun _ f => f.elim), b1.keep k2 (fun f => f), Own.nil _ _ _ _, b2, by omega, (fun i hi => by cases hi), ⟨List.nodup_nil, (fun E hE => by cases hE)⟩, (fun E hE => by cases hE), (by rw [World.size_alloc, World.size_alloc, hsz]; omega), ha, hd, (by have := near_le D (D a) N; simpa using this),
    ⟨rfl, rfl, (fun k i h => by cases k <;> cases h)⟩, (fun k i h => by cases k <;> cases h)⟩
theorem PW.keep {w W W' : World} {g s h R h6 R6 N : Nat} {l : List E3} {times : List Int} {D : Nat → Int} {a x : Nat} {P : List Nat} {A : Option Addr} {c xb : Nat} {ds : List Nat} {nu : Nat → Int} (H : PW w W g s h R h6 R6 N l times D a x P A c xb ds nu) (hk : Same W W') : PW w W' g s h R h6 R6 N l times D a x P A c xb ds nu :=
  ⟨H.ps.keep hk (fun _ f => f.elim), H.wh.keep hk (fun f => f), H.wo.keepB hk (fun _ _ f => f), H.nb.keep hk (fun f => f), H.xl, H.ax, H.mks.keep hk (fun _ _ f => f.elim), H.md, Nat.le_trans H.top hk.size, H.xN, H.fx, H.len, H.way, H.fit⟩
theorem PW.grownX {w W W' : World} {row : Option Nat} {g s h R h6 R6 N : Nat} {l : List E3} {times : List Int} {D : Nat → Int} {a x : Nat} {P : List Nat} {A : Option Addr} {c xb : Nat} {ds : List Nat} {nu : Nat → Int} (H : PW w W g s h R h6 R6 N l times D a x P A c xb ds nu) (hg : W.grownBy W' row) (hr : ∀ r, row = some r → ∃ o : Obj, W.heap[r]? = some o ∧ o.isCells = false) (hB : ∀ r, row = some r → w.heap.size ≤ r) (hD : ∀ r, row = some r → ∀ E ∈ ds, E < r) : PW w W' g s h R h6 R6 N l times D a x P A c xb ds nu :=
  ⟨⟨H.ps.b4.grownX hg hr, H.ps.bh.grownX hg hr, H.ps.bR.grownX hg hr, H.ps.b6.grownX hg hr, H.ps.bD.grownX hg hr, H.ps.same.grown hg (fun r e hl => by have := hB r e; omega), H.ps.hs, H.ps.lt, Nat.lt_of_lt_of_le H.ps.top hg.size⟩,
    H.wh.grownX hg hr, Own.grownX H.wo hg hr, H.nb.grownX hg hr, H.xl, H.ax, ⟨H.mks.1, fun E hE => (hg.block E (H.mks.lt E hE) (fun e => by have := hD E e.symm E hE; omega)).trans (H.mks.2 E hE)⟩, H.md, Nat.le_trans H.top hg.size, H.xN, H.fx, H.len, H.way, H.fit⟩
/-- A step of the walk. -/
theorem Way.snoc {l : List E3} {a : Int} {x y : Int} {P : List Nat} {nu : Nat → Int} {i : Nat} {e : E3} (h : Way l a x P nu) (he : l[i]? = some e) (ha : e.a = x) (hb : e.b = y) : Way l a y (P ++ [i]) (fun k => if k ≤ P.length then nu k else y) := by
  refine ⟨by simp [h.st], by rw [List.length_append, List.length_singleton, if_neg (by omega)], fun k j hj => ?_⟩
  rcases Nat.lt_or_ge k P.length with hk | hk
  · rw [List.getElem?_append_left hk] at hj
    obtain ⟨e1, h1, h2, h3⟩ := h.step k j hj
    exact ⟨e1, h1, by rw [if_pos (by omega)]; exact h2, by rw [if_pos (by omega)]; exact h3⟩
  · have hke : k = P.length := by
      have := (List.getElem?_eq_some_iff.1 hj).1
      simp at this; omega
    subst hke
    simp at hj
    subst hj
    exact ⟨e, he, by rw [if_pos (Nat.le_refl _), h.en]; exact ha, by rw [if_neg (by omega)]; exact hb⟩
theorem EIntU : Elem Try.prog 39 3 1 8 (.int .i64 0) := ⟨Try.underlying39, by kernel_rfl, rfl, by decide⟩
theorem wayL_snoc (P : List Nat) (i : Nat) : wayL (P ++ [i]) = wayL P ++ [(i : Int)] := by simp [wayL]
theorem results_tmp3 {P : Program} {fn : Func} {p q r : Tmp} (h : fn.results = #[.tmp p, .tmp q, .tmp r]) (tmps : Array Value) (w : World) (x y z : Value) (hx : tmps.getD p undef = x) (hy : tmps.getD q undef = y) (hz : tmps.getD r undef = z) :
    (results fn tmps).run P w = .ok (.tuple #[x, y, z]) w := by
  have hx' : tmps[p]?.getD undef = x := by simpa using hx
  have hy' : tmps[q]?.getD undef = y := by simpa using hy
  have hz' : tmps[r]?.getD undef = z := by simpa using hz
  simp [results, h, hx', hy', hz', go_sem]
set_option maxRecDepth 100000 in
set_option maxHeartbeats 4000000 in
theorem path_any (w : World) (g N : Nat) (l : List E3) (E : Option Addr) (cE po pi : Nat) (hG : IsG w g N l E cE po pi) (hN : N ≤ 8) (hl : l.length ≤ 16384) (hok : ∀ e ∈ l, (0 ≤ e.a ∧ e.a < N) ∧ (0 ≤ e.b ∧ e.b < N))
    (ta : Option Addr) (tc : Nat) (times : List Int) (ht : Sl w (fun _ => False) 1 ta times.length (icellsC times)) (htl : times.length ≤ 16384) (a b : Nat) (ha : a < N) (hb : b < N) :
    Calls Try.prog 12 #[.pointer (some ⟨g, 0, none⟩), .slice ta times.length tc, .int .i64 a, .int .i64 b] w (PathPost w l N a b times) := by
  refine (callsIn_wide (n := 6)).1 ?_
  refine callsIn_of_wp_marks Try.func12 rfl trivial ?_ rfl
  simp only [Try.ntmps12, List.size_toArray, List.length_cons, List.length_nil, Nat.reduceAdd, Nat.reduceSub, Array.replicate_succ, Array.replicate_zero, List.push_toArray, List.append_toArray, List.nil_append, List.cons_append]
  have hk1 : Same w (w.alloc (.cells #[.pointer (some ⟨g, 0, none⟩)] 26)) := (Keep.refl _ w).alloc _
  have hb1 := Blk.made w 26 #[.pointer (some ⟨g, 0, none⟩)]
  have hz1 : (w.alloc (.cells #[.pointer (some ⟨g, 0, none⟩)] 26)).heap.size = w.heap.size + 1 := World.size_alloc _ _
  have HIA := hid (isNode_any (w.alloc (.cells #[.pointer (some ⟨g, 0, none⟩)] 26)) g N l E cE po pi (hG.same hk1) (by omega) (a : Int) (by omega) (by omega))
  have HIB := hid (isNode_any (w.alloc (.cells #[.pointer (some ⟨g, 0, none⟩)] 26)) g N l E cE po pi (hG.same hk1) (by omega) (b : Int) (by omega) (by omega))
  have HTT := hid (travelTimes_any (w.alloc (.cells #[.pointer (some ⟨g, 0, none⟩)] 26)) g N l E cE po pi (hG.same hk1) hl ta tc times (ht.same hk1) htl)
  have HG := hid hG
  have HOK := hid hok
  have HK1 := hid hk1
  have HB1 := hid hb1
  have hlen : (ttL times l.length).length = l.length := by simp [ttL]
  have HLN := hid hlen
  clear hG hok ht hk1 hb1 hlen
  gi_upto_region 3 with (first
    | (refine ⟨trivial, ?_⟩; gi_at_call 24; with_reducible refine (callsIn_wide.2 HIA.out).mono ?_; rintro e w2 ⟨rfl, rfl⟩)
    | (refine ⟨trivial, ?_⟩; gi_at_call 24; with_reducible refine (callsIn_wide.2 HIB.out).mono ?_; rintro e w2 ⟨rfl, rfl⟩))
  generalize w.alloc (.cells #[.pointer (some ⟨g, 0, none⟩)] 26) = W1 at *
  generalize hsz : w.heap.size = s at *
  have c4 : W1.cell? ⟨s, 0, none⟩ = some (.pointer (some ⟨g, 0, none⟩)) := HB1.out.at_ 0
  gi_upto_region 4 with (first
    | (refine ⟨trivial, ?_⟩; gi_at_call 22; refine (callsIn_wide.2 HTT.out).mono ?_; rintro e w2 ⟨R, rfl, hb2, hk2, hR2⟩; have HB2 := hid hb2; have HK2 := hid hk2; have HR2 := hid hR2; clear hb2 hk2 hR2; rw [HLN.out]))
  have hb3 := Blk.made w2 35 #[.slice (some ⟨R, 0, none⟩) l.length l.length]
  have hk3 := HK2.out.then ((Keep.refl (fun _ => False) w2).alloc (.cells #[.slice (some ⟨R, 0, none⟩) l.length l.length] 35))
  have hb2 := HB2.out.alloc (.cells #[.slice (some ⟨R, 0, none⟩) l.length l.length] 35)
  have hRl := HB2.out.lt
  have hR3 := HR2.out
  rw [hz1] at hR3
  generalize w2.alloc (.cells #[.slice (some ⟨R, 0, none⟩) l.length l.length] 35) = W3 at *
  generalize w2.heap.size = h at *
  have HI0 := hid (show Blk W3 s 26 #[.pointer (some ⟨g, 0, none⟩)] ∧ Blk W3 h 35 #[.slice (some ⟨R, 0, none⟩) l.length l.length] ∧ Blk W3 R 2 (part2 (fun i => up (ttA times i)) (ttA times) l.length 0).toArray ∧ Same w W3 from ⟨HB1.out.keep hk3 (fun f => f), hb3, by rw [part2_zero]; exact hb2, HK1.out.then hk3⟩)
  have c11 : W3.cell? ⟨h, 0, none⟩ = some (.slice (some ⟨R, 0, none⟩) l.length l.length) := hb3.at_ 0
  clear hb3 hk3 hb2 HB1 HK1 HB2 HK2 HR2 HIA HIB HTT c4
  gi_wp2
  clear c11
  gi_loopw [35] (fun i wr => ∃ k : Nat, k ≤ l.length ∧ i = .int .i64 k ∧ Hid (Blk wr s 26 #[.pointer (some ⟨g, 0, none⟩)] ∧ Blk wr h 35 #[.slice (some ⟨R, 0, none⟩) l.length l.length] ∧ Blk wr R 2 (part2 (fun i => up (ttA times i)) (ttA times) l.length k).toArray ∧ Same w wr)) (fun i _ => l.length - (RowKit.intOf i).toNat)
  case atStart => exact ⟨0, Nat.zero_le _, rfl, HI0⟩
  case round =>
    obtain ⟨k, hk, rfl, HL⟩ := hrel
    clear HI0
    by_cases hkn : k < l.length
    · have hk0 : (0 : Int) ≤ (k : Int) := Int.natCast_nonneg _
      have hk1 : (k : Int) < (l.length : Int) := by omega
      have cr : wr.cell? ⟨R, k, none⟩ = some (.int .i64 (ttA times k)) := (HL.out.2.2.1.at_ k).trans (by rw [List.getElem?_toArray, part2_at _ _ _ _ _ hkn, if_neg (by omega)])
      have fr := HL.out.2.2.1.free k
      have c11 : wr.cell? ⟨h, 0, none⟩ = some (.slice (some ⟨R, 0, none⟩) l.length l.length) := HL.out.2.1.at_ 0
      have hup := up_ok times k
      have htt := ttA_ok times k
      obtain ⟨v, hv⟩ : ∃ v, v = ttA times k := ⟨_, rfl⟩
      have HV := hid hv
      rw [← hv] at cr hup htt
      clear hv
      by_cases hinf : v = INF
      · have hne : (v != 4611686018427387904) = false := by rw [hinf]; rfl
        have HINF := hid hinf
        clear hinf hup htt
        gi_wp2
        go_roundw
        case rel =>
          refine ⟨k + 1, by omega, by go_num, hid ⟨HL.out.1, HL.out.2.1, ?_, HL.out.2.2.2⟩⟩
          rw [← part2_skip _ _ _ _ (show up (ttA times k) = ttA times k from by rw [← HV.out, HINF.out]; rfl)]
          exact HL.out.2.2.1
        case measure => simp [RowKit.intOf]; omega
      · have hne : (v != 4611686018427387904) = true := by simp only [bne_iff_ne, ne_eq]; exact hinf
        obtain ⟨v1, v2⟩ := htt hinf
        have HU := hid (show v * 8192 + 1 = up (ttA times k) from by unfold up; rw [← HV.out, if_neg hinf])
        clear hinf hup htt
        gi_wp2
        go_roundw
        case rel =>
          refine ⟨k + 1, by omega, by go_num, hid ⟨HL.out.1.keep ((Keep.refl (· = R) wr).put k _) (by omega), HL.out.2.1.keep ((Keep.refl (· = R) wr).put k _) (by omega), ?_, HL.out.2.2.2.trans ((Keep.refl (· = R) wr).put k _) (fun i hi e => by have : i = R := e; omega)⟩⟩
          rw [HU.out]
          have := HL.out.2.2.1.put k (.int .i64 (up (ttA times k)))
          rw [List.setIfInBounds_toArray, part2_set (fun i => up (ttA times i)) (ttA times) _ _ hkn] at this
          exact this
        case measure => simp [RowKit.intOf]; omega
    · have hke : k = l.length := by omega
      subst hke
      have hL4 := HL.out
      rw [part2_all] at hL4
      obtain ⟨q1, q2, q3, q4⟩ := hL4
      have c4 : wr.cell? ⟨s, 0, none⟩ = some (.pointer (some ⟨g, 0, none⟩)) := q1.at_ 0
      have c11 : wr.cell? ⟨h, 0, none⟩ = some (.slice (some ⟨R, 0, none⟩) l.length l.length) := q2.at_ 0
      have k5 : Same wr (wr.alloc (.cells #[.int .i64 (b : Int)] 3)) := (Keep.refl _ _).alloc _
      have hb5 := Blk.made wr 3 #[.int .i64 (b : Int)]
      have HSB := hid (searchB_any (wr.alloc (.cells #[.int .i64 (b : Int)] 3)) g N l E cE po pi (HG.out.same (q4.then k5)) hN hl HOK.out (some ⟨R, 0, none⟩) l.length (upL times l.length)
        (row_sl (q3.keep k5 (fun f => f)) (by simp [icellsC, upL])) 8589934593 (up_wg times hN HOK.out) (by omega) (some ⟨wr.heap.size, 0, none⟩) 1 b hb (Sl.of_blk (size := 1) (n := 1) hb5 rfl (fun f => f)))
      have HP := hid (show Blk (wr.alloc (.cells #[.int .i64 (b : Int)] 3)) s 26 #[.pointer (some ⟨g, 0, none⟩)] ∧ Blk (wr.alloc (.cells #[.int .i64 (b : Int)] 3)) h 35 #[.slice (some ⟨R, 0, none⟩) l.length l.length] ∧ Blk (wr.alloc (.cells #[.int .i64 (b : Int)] 3)) R 2 (icellsC (upL times l.length)).toArray ∧ Same w (wr.alloc (.cells #[.int .i64 (b : Int)] 3)) from
        ⟨q1.keep k5 (fun f => f), q2.keep k5 (fun f => f), q3.keep k5 (fun f => f), q4.then k5⟩)
      clear q1 q2 q3 q4 k5 hb5 HL
      gi_upto_region 11 with (first
        | (refine ⟨trivial, ?_⟩; gi_at_call 21; refine (callsIn_wide.2 HSB.out).mono ?_; intro e w6 hq; obtain ⟨R6, D, hq⟩ := hq; obtain ⟨he, hb6, hd6, hk6, hR6⟩ := hq; subst he; have HB6 := hid hb6; have HD6 := hid hd6; have HK6 := hid hk6; have HR6 := hid hR6; clear hb6 hd6 hk6 hR6))
      have hz6 := Blk.made w6 35 #[.slice (some ⟨R6, 0, none⟩) N N]
      have hk7 := (Keep.refl (fun _ => False) w6).alloc (.cells #[.slice (some ⟨R6, 0, none⟩) N N] 35)
      have hsz7 : (w6.alloc (.cells #[.slice (some ⟨R6, 0, none⟩) N N] 35)).heap.size = w6.heap.size + 1 := World.size_alloc _ _
      obtain ⟨h6, hh6⟩ : ∃ x, x = w6.heap.size := ⟨_, rfl⟩
      rw [← hh6] at hz6 hsz7 ⊢
      have hk57 := HK6.out.then hk7
      have HPS := hid (show PS w (w6.alloc (.cells #[.slice (some ⟨R6, 0, none⟩) N N] 35)) g s h R h6 R6 N l times D from
        ⟨HP.out.1.keep hk57 (fun f => f), HP.out.2.1.keep hk57 (fun f => f), HP.out.2.2.1.keep hk57 (fun f => f), hz6, HB6.out.alloc _, HP.out.2.2.2.then hk57, hsz,
          ⟨by have := (HP.out.1.keep HK6.out (fun f => f)).lt; omega, by have := (HP.out.2.1.keep HK6.out (fun f => f)).lt; omega, by have := (HP.out.2.2.1.keep HK6.out (fun f => f)).lt; omega, by have := HB6.out.lt; omega⟩, by omega⟩)
      clear hz6 hk7 hk57 hh6 HP HK6 HB6 HR6 c4 c11 HSB
      generalize w6.alloc (.cells #[.slice (some ⟨R6, 0, none⟩) N N] 35) = W7 at *
      have c14 : W7.cell? ⟨h6, 0, none⟩ = some (.slice (some ⟨R6, 0, none⟩) N N) := HPS.out.b6.at_ 0
      have cda : W7.cell? ⟨R6, a, none⟩ = some (.int .i64 (D a)) := (HPS.out.bD.at_ a).trans (by rw [List.getElem?_toArray]; exact distL_at _ ha)
      have ha0 : (0 : Int) ≤ (a : Int) := Int.natCast_nonneg _
      have ha1 : (a : Int) < (N : Int) := by omega
      by_cases hinf : D a = INF
      · rw [hinf] at cda
        have cda' : W7.cell? ⟨R6, a, none⟩ = some (.int .i64 4611686018427387904) := cda
        clear cda
        have HI := hid hinf
        clear hinf
        gi_wp2
        show LeavesInM Fence.wide 6 Try.prog Try.f12 _ _ (([] : List Nat).map markD) .returning _
        refine leaves_marks [] _ ⟨List.nodup_nil, fun E hE => by cases hE⟩ (fun W' hk' => ?_)
        exact ⟨_, results_tmp3 rfl _ _ _ _ _ rfl rfl rfl, D, HD6.out, HPS.out.same.trans hk' (fun i hi e => by cases e), Or.inl ⟨HI.out, rfl⟩⟩
      · have hne : (D a == 4611686018427387904) = false := by rw [beq_eq_false_iff_ne]; exact hinf
        have HPW := hid (PW.start HPS.out hsz7 ha hinf)
        gi_wp2
        simp only [Nat.add_assoc, Nat.reduceAdd]
        clear c14 cda hne hsz7
        generalize (W7.alloc (.cells #[.slice none 0 0] 39)).alloc (.cells #[.int .i64 (a : Int)] 3) = W8 at *
        refine wpIn_loop_st (S := Nat × List Nat) (fun st a' w' => ∃ (ds : List Nat) (A : Option Addr) (c xb : Nat) (nu : Nat → Int), Hid (PW w w' g s h R h6 R6 N l times D a st.1 st.2 A c xb ds nu) ∧ ∃ U : Nat → Value, a' = { tmps := #[U 0, U 1, .int .i64 a, .int .i64 b, .pointer (some ⟨s, 0, none⟩), U 5, U 6, U 7, U 8, U 9, U 10, .pointer (some ⟨h, 0, none⟩), U 12, U 13, .pointer (some ⟨h6, 0, none⟩), .pointer (some ⟨h6 + 1, 0, none⟩), .pointer (some ⟨xb, 0, none⟩), U 17, U 18, U 19, U 20, U 21, U 22, U 23, U 24, U 25, U 26, U 27, U 28, U 29, U 30, U 31, U 32, U 33, U 34, U 35, U 36, U 37, U 38, U 39, U 40, U 41, U 42, U 43, U 44, U 45, U 46, U 47, U 48, U 49, U 50, U 51, U 52, U 53, U 54, U 55, U 56, U 57, U 58, U 59, U 60, U 61, U 62, U 63, U 64, U 65, U 66, U 67, U 68, U 69, U 70, U 71, U 72, U 73, U 74, U 75, U 76, U 77, U 78, U 79, U 80, U 81, U 82, U 83, U 84, U 85, U 86, U 87, U 88, U 89, U 90, U 91, U 92, U 93, U 94, U 95, U 96, U 97, U 98, U 99, U 100, U 101, U 102, U 103, U 104, U 105, U 106, U 107], defers := ds.map markD }) (fun st => near D (D st.1) N) ⟨(a, []), [], none, 0, h6 + 2, fun _ => a, HPW, frame_fn (by rfl)⟩ ?_
        rintro ⟨x, P⟩ a' W1 ⟨ds, A, c, xb, nu, HX, U, rfl⟩
        try dsimp only at HX ⊢
        clear HPW HPS
        have cx : W1.cell? ⟨xb, 0, none⟩ = some (.int .i64 x) := HX.out.nb.at_ 0
        by_cases hxb : x = b
        · subst hxb
          have hne : ((x : Int) != (x : Int)) = false := by simp
          have c15 : W1.cell? ⟨h6 + 1, 0, none⟩ = some (.slice A P.length c) := HX.out.wh.at_ 0
          have c14 : W1.cell? ⟨h6, 0, none⟩ = some (.slice (some ⟨R6, 0, none⟩) N N) := HX.out.ps.b6.at_ 0
          have cda : W1.cell? ⟨R6, a, none⟩ = some (.int .i64 (D a)) := (HX.out.ps.bD.at_ a).trans (by rw [List.getElem?_toArray]; exact distL_at _ ha)
          have hlo := (HD6.out.lo a ha)
          have hq1 : (D a).tdiv 8192 = D a / 8192 := Int.tdiv_eq_ediv_of_nonneg hlo.1
          have hq2 : IntKind.i64.wrap (D a / 8192) = D a / 8192 := by have := hlo.2; unfold INF at this; rw [IntKind.wrap_i64]; omega
          obtain ⟨qv, hqv⟩ : ∃ q, q = D a / 8192 := ⟨_, rfl⟩
          rw [← hqv] at hq1 hq2
          have HQ := hid hqv
          clear hqv
          gi_upto_region 24 with fail
          refine wpIn_wide.2 ?_
          go_quiet (fail)
          gi_wp2
          show LeavesInM Fence.wide 6 Try.prog Try.f12 _ _ (ds.map markD) .returning _
          have kd : Same W1 (W1.drewN nq) := (Keep.refl (fun _ => False) W1).drewN nq
          refine leaves_marks ds _ (HX.out.mks.keep kd (fun _ _ f => f.elim)) (fun W' hk' => ?_)
          have ho := (HX.out.wo.keepB kd (fun _ _ f => f)).keepB hk' (fun i hi e => by
            have h1 := HX.out.mks.2 i e
            rcases HX.out.wo.2 with ⟨e2, _⟩ | ⟨gg, cap, cur, e2, _, hh, _⟩
            · rw [e2] at hi; cases hi
            · rw [e2] at hi
              injection hi with hi
              subst hi
              rw [h1] at hh; cases hh)
          exact ⟨_, results_tmp3 rfl _ _ _ _ _ rfl rfl rfl, D, HD6.out, (HX.out.ps.same.then kd).trans hk' (fun i hi e => by have := HX.out.md i e; have := HX.out.ps.lt.1; omega),
            Or.inr ⟨hinf, A, c, P, nu, by rw [HQ.out]; rfl, ho.sl (fun _ _ f => f), by have := HX.out.len; omega, HX.out.way, HX.out.fit⟩⟩
        · have hne : ((x : Int) != (b : Int)) = true := by simp only [bne_iff_ne, ne_eq]; omega
          have c4 : W1.cell? ⟨s, 0, none⟩ = some (.pointer (some ⟨g, 0, none⟩)) := HX.out.ps.b4.at_ 0
          gi_wp2_with (first | (refine ⟨trivial, ?_⟩; gi_at_call 25; with_reducible refine (callsIn_wide.2 (outE_any W1 g N l E cE po pi (HG.out.same HX.out.ps.same) (x : Int))).mono ?_; rintro e w5 ⟨rfl, rfl⟩))
          have hk5 : Same W1 ((W1.alloc (.cells #[.slice (some ⟨po, 0, none⟩) N N] 70)).alloc (.cells #[.int .i64 (x : Int)] 3)) := ((Keep.refl _ W1).alloc _).alloc _
          have HX5 := hid (HX.out.keep hk5)
          have HBh := hid (Blk.made (W1.alloc (.cells #[.slice (some ⟨po, 0, none⟩) N N] 70)) 3 #[.int .i64 (x : Int)])
          have HBl := hid ((Blk.made W1 70 #[.slice (some ⟨po, 0, none⟩) N N]).alloc (.cells #[.int .i64 (x : Int)] 3))
          have hsz5 : (((W1.alloc (.cells #[.slice (some ⟨po, 0, none⟩) N N] 70)).alloc (.cells #[.int .i64 (x : Int)] 3))).heap.size = W1.heap.size + 2 := by simp only [World.size_alloc]
          rw [World.size_alloc] at HBh
          have hxl1 := HX.out.nb.lt
          have htp1 := HX.out.top
          have HM1 := hid HX.out.mks.lt
          have HMD := hid HX.out.md
          have hxN := HX.out.xN
          clear hk5 cx c4 hne HX
          generalize ((W1.alloc (.cells #[.slice (some ⟨po, 0, none⟩) N N] 70)).alloc (.cells #[.int .i64 (x : Int)] 3)) = W5 at *
          generalize W1.heap.size = z at *
          obtain ⟨Ar, cr, hrow0, hsl0⟩ := HG.out.outs.row hxN
          have hrow := (HX5.out.ps.same.cell (range_lt hrow0) (fun f => f)).trans hrow0
          have hsl := hsl0.old.same HX5.out.ps.same
          rw [hsz] at hsl
          have hpo : po < W5.heap.size := Nat.lt_of_lt_of_le (range_lt hrow0) HX5.out.ps.same.size
          have hlo := outP_le E3.a l x l.length
          have hlt6 := HX5.out.ps.lt
          refine wpIn_rangeFunc_ownG rfl (by decide) (gf := 38) (lb := #[.pointer (some ⟨z + 1, 0, none⟩), .pointer (some ⟨z, 0, none⟩)]) rfl trivial (enters_of Try.func38 (by kernel_rfl) rfl)
            (enum_mem _ (by decide) (z + 1) z s po N x Ar cr (outP E3.a l x l.length) (by omega) (by omega) W5 (by omega) (by omega) (by omega) hpo (HBh.out.at_ 0) (HBl.out.at_ 0) hxN hrow hsl) belowK_t (belowK_b (by omega)) (Below.refl _ _) (fun _ => rfl)
            (fun pre W => PW w W g s h R h6 R6 N l times D a x P A c xb ds nu ∧ ∀ j : Nat, (j : Int) ∈ pre.map (·.1) → ¬ Fit l times D x j)
            (fun cd pre W => cd = .exit 4 ∧ ∃ (y : Nat) (i : Nat) (A' : Option Addr) (c' : Nat), near D (D y) N < near D (D x) N ∧ PW w W g s h R h6 R6 N l times D a y (P ++ [i]) A' c' xb ds (fun k => if k ≤ P.length then nu k else (y : Int)))
            (fun pre B C row hs hg hr => ⟨hs.1.grownX hg (fun r e => (hr r e).2) (fun r e => by have := (hr r e).1; omega) (fun r e E hE => by have := (hr r e).1; have := HM1.out E hE; omega), hs.2⟩)
            (fun cd pre B C row hs hg hr => by
              obtain ⟨h1, y, i, A', c', h2, h3⟩ := hs
              exact ⟨h1, y, i, A', c', h2, h3.grownX hg (fun r e => (hr r e).2) (fun r e => by have := (hr r e).1; omega) (fun r e E hE => by have := (hr r e).1; have := HM1.out E hE; omega)⟩)
            ⟨HX5.out, fun j hj => by cases hj⟩ ?a1 ?assign2 ?body2 ?done2 ?stop2
          case assign2 =>
            intro l1 x W K hK
            gi_wp2
            exact hK
          case body2 =>
            rintro l1 pre ⟨y, hy⟩ W hI hlt
            obtain ⟨i, e, hi, he, hea, rfl⟩ := outP_mem.1 hy
            obtain ⟨⟨p1, p2⟩, p3, p4⟩ := HOK.out e (List.mem_of_getElem? he)
            obtain ⟨tb, htb⟩ : ∃ n : Nat, e.b = n := ⟨_, (Int.toNat_of_nonneg (by omega)).symm⟩
            have htN : tb < N := by omega
            have HPW := hid hI
            have HED := hid (edge_any W g N l E cE po pi (HG.out.same hI.1.ps.same) hl i e he)
            have c4 : W.cell? ⟨s, 0, none⟩ = some (.pointer (some ⟨g, 0, none⟩)) := hI.1.ps.b4.at_ 0
            have HE := hid (show l[i]? = some e ∧ e.a = (x : Int) ∧ e.b = (tb : Int) from ⟨he, hea, htb⟩)
            have hlD := HD6.out.lo tb htN
            have hlX := HD6.out.lo x hxN
            have hup := up_ok times i
            have hul : (upL times l.length)[i]? = some (up (ttA times i)) := by simp [upL, hi]
            obtain ⟨v, hv⟩ : ∃ v, v = up (ttA times i) := ⟨_, rfl⟩
            rw [← hv] at hup hul
            have HV := hid hv
            clear hI p1 p2 p3 p4 htb he hv hrow hsl hrow0 hsl0
            gi_upto_region 19 with (first | (refine ⟨trivial, ?_⟩; gi_at_call 26; with_reducible refine (CallsIn.inRound l1 (callsIn_wide.2 HED.out)).mono ?_; rintro _ w3 ⟨rfl, hk3⟩; have HK3 := hid hk3; clear hk3))
            have hk4 := HK3.out.then ((Keep.refl (fun _ => False) w3).alloc (.cells #[.int .i64 (x : Int), .int .i64 e.b, .int .i64 e.c] 49))
            have hz4 := Blk.made w3 49 #[.int .i64 (x : Int), .int .i64 e.b, .int .i64 e.c]
            generalize w3.alloc (.cells #[.int .i64 (x : Int), .int .i64 e.b, .int .i64 e.c] 49) = W3 at *
            obtain ⟨yy, hyy⟩ : ∃ yy, yy = w3.heap.size := ⟨_, rfl⟩
            rw [← hyy] at hz4 ⊢
            have HKW := hid hk4
            have hp3 := HPW.out.1.keep hk4
            have pb : W3.cell? ⟨yy, 1, none⟩ = some (.int .i64 (tb : Int)) := (hz4.at_ 1).trans (by rw [← HE.out.2.2]; rfl)
            have HZ4 := hid hz4
            have c11 : W3.cell? ⟨h, 0, none⟩ = some (.slice (some ⟨R, 0, none⟩) l.length l.length) := hp3.ps.bh.at_ 0
            have cv : W3.cell? ⟨R, i, none⟩ = some (.int .i64 v) := (hp3.ps.bR.at_ i).trans (by rw [List.getElem?_toArray]; simp [icellsC, hul])
            have c14 : W3.cell? ⟨h6, 0, none⟩ = some (.slice (some ⟨R6, 0, none⟩) N N) := hp3.ps.b6.at_ 0
            have ct : W3.cell? ⟨R6, tb, none⟩ = some (.int .i64 (D tb)) := (hp3.ps.bD.at_ tb).trans (by rw [List.getElem?_toArray]; exact distL_at _ htN)
            have cxx : W3.cell? ⟨R6, x, none⟩ = some (.int .i64 (D x)) := (hp3.ps.bD.at_ x).trans (by rw [List.getElem?_toArray]; exact distL_at _ hxN)
            have c16 : W3.cell? ⟨xb, 0, none⟩ = some (.int .i64 x) := hp3.nb.at_ 0
            have hyW : W.heap.size ≤ yy := by rw [hyy]; exact HK3.out.size
            clear hk4 hz4 hp3 c4 hul hyy
            have hi0 : (0 : Int) ≤ (i : Int) := Int.natCast_nonneg _
            have hi1 : (i : Int) < (l.length : Int) := by omega
            have ht0 : (0 : Int) ≤ (tb : Int) := Int.natCast_nonneg _
            have ht1 : (tb : Int) < (N : Int) := by omega
            have hx0 : (0 : Int) ≤ (x : Int) := Int.natCast_nonneg _
            have hx1 : (x : Int) < (N : Int) := by omega
            by_cases hinf : v = INF
            · have hne : (v != 4611686018427387904) = false := by rw [hinf]; rfl
              have HNF := hid (show ¬ Fit l times D x i from fun ⟨e1, h1, h2, h3, h4⟩ => h3 (by rw [← HV.out]; exact hinf))
              clear hinf hup
              refine wpIn_region_quiet_round (by kernel_rfl) (by kernel_rfl) (by kernel_rfl) ?_
              repeat (go_big_quiet_step (fail))
              refine wpQuiet_nil ?_
              intro _ hw1
              obtain ⟨nq, hw2⟩ := hw1
              subst hw2
              have kd : Same W (W3.drewN nq) := HKW.out.then ((Keep.refl (fun _ => False) W3).drewN nq)
              have HIN := hid (show PW w (W3.drewN nq) g s h R h6 R6 N l times D a x P A c xb ds nu ∧ ∀ j : Nat, (j : Int) ∈ (pre ++ [(⟨(i : Int), hy⟩ : { y : Int // y ∈ outP E3.a l x l.length })]).map (·.1) → ¬ Fit l times D x j from ⟨HPW.out.1.keep kd, fun j hj => by
                rw [List.map_append, List.mem_append] at hj
                rcases hj with hj | hj
                · exact HPW.out.2 j hj
                · simp only [List.map_cons, List.map_nil, List.mem_singleton] at hj
                  have : j = i := by omega
                  subst this
                  exact HNF.out⟩)
              have HST := hid (show St s 0 W (W3.drewN nq) from St.of_same kd)
              have htW := HPW.out.1.top
              clear kd
              gi_wp2
              exact ⟨KeepsFrom.up HST.out.kf, HST.out.below (by omega), HIN.out⟩
            · have hne : (v != 4611686018427387904) = true := by simp only [bne_iff_ne, ne_eq]; exact hinf
              obtain ⟨v1, v2⟩ := hup hinf
              have HVI := hid hinf
              obtain ⟨dt, hdt⟩ : ∃ t, t = D tb := ⟨_, rfl⟩
              rw [← hdt] at ct hlD
              obtain ⟨dx, hdx⟩ : ∃ t, t = D x := ⟨_, rfl⟩
              rw [← hdx] at cxx hlX
              have HDT := hid (show dt = D tb ∧ dx = D x from ⟨hdt, hdx⟩)
              obtain ⟨sm, hsm⟩ : ∃ t, t = v + dt := ⟨_, rfl⟩
              have HSM := hid hsm
              have hwr : IntKind.i64.wrap (v + dt) = sm := by have h1 := hlD.2; unfold INF at h1; rw [IntKind.wrap_i64]; omega
              clear hinf hdt hdx hsm
              by_cases heq : sm = dx
              · have hb1 : (sm == dx) = true := by rw [beq_iff_eq]; exact heq
                have HEQ := hid heq
                clear heq
                refine wpIn_region_quiet_round (by kernel_rfl) (by kernel_rfl) (by kernel_rfl) ?_
                repeat (go_big_quiet_step (fail))
                refine wpQuiet_nil ?_
                intro _ hw1
                obtain ⟨nq, hw2⟩ := hw1
                subst hw2
                have hp4 := HPW.out.1.keep (HKW.out.then ((Keep.refl (fun _ => False) W3).drewN nq))
                have HK4 := hid (HKW.out.then ((Keep.refl (fun _ => False) W3).drewN nq))
                have pb4 : (W3.drewN nq).cell? ⟨yy, 1, none⟩ = some (.int .i64 (tb : Int)) := pb
                have HZ5 := hid (HZ4.out.drewN nq)
                have HP4 := hid hp4
                clear hp4 pb c11 cv c14 ct cxx c16 HKW HZ4
                generalize W3.drewN nq = W4 at *
                have c15 : W4.cell? ⟨h6 + 1, 0, none⟩ = some (.slice A P.length c) := HP4.out.wh.at_ 0
                have HKa := hid ((Keep.refl (fun _ => False) W4).alloc (.cells #[.int .i64 (i : Int)] 3))
                have HOa := hid (HP4.out.wo.keepB HKa.out (fun _ _ f => f))
                have HSa := hid (src_new (w := W4) (cs := #[.int .i64 (i : Int)]) (t := 3) (news := icellsC [(i : Int)]) rfl)
                have hPl : P.length ≤ 8 := by have := HP4.out.len; omega
                gi_upto_region 21 with (first | (gi_at_builtin; refine EIntU.lawIn2 (.tmp 95) (.tmp 97) (.slice A P.length c) (some ⟨W4.heap.size, 0, none⟩) 1 1 rfl (by rfl) (by rfl) (by rfl) (h6 + 2) P.length (icellsC (wayL P)) (icellsC [(i : Int)]) (P.length + 1) (icellsC (wayL (P ++ [i]))) rfl (by rw [wayL_snoc]; exact (icC_appH _ _).symm) HOa.out rfl (fun _ => ⟨_, rfl, HSa.out⟩) (by intro u hu; simp [icellsC] at hu; subst hu; rfl) (by omega) (by unfold maxLen; omega) (by have := HP4.out.top; have := HKa.out.size; omega) ?_; intro A7 c7 w7 ho7 hg7 hw7; have HO7 := hid ho7; have HG7 := hid hg7; have HW7 := hid hw7; have c15w : w7.cell? ⟨h6 + 1, 0, none⟩ = some (.slice A P.length c) := ((HP4.out.wh.keep HKa.out (fun f => f)).keep ((Keep.refl (fun j => h6 + 2 ≤ j) _).grown HG7.out (fun j e _ => HOa.out.block j e)) (by omega)).at_ 0; have f15w : w7.frozen? ⟨h6 + 1, 0, none⟩ = false := ((HP4.out.wh.keep HKa.out (fun f => f)).keep ((Keep.refl (fun j => h6 + 2 ≤ j) _).grown HG7.out (fun j e _ => HOa.out.block j e)) (by omega)).free 0; clear ho7 hg7 hw7))
                have hAm : ∀ j, (Value.slice A P.length c).ownBlock = some j → A.map (·.block) = some j := fun j e => by rw [← e]; cases A <;> rfl
                have hAlt : ∀ j, A.map (·.block) = some j → j < W.heap.size := fun j hj => by
                  rcases HPW.out.1.wo.2 with ⟨e2, _⟩ | ⟨gg, cap, cur, e2, _, hh, _⟩
                  · injection e2 with e2 _ _; subst e2; cases hj
                  · injection e2 with e2 _ _; subst e2
                    injection hj with hj
                    subst hj
                    exact Blk.lt (t := 3) (cs := cur) hh
                have hxbW : xb < W.heap.size := HPW.out.1.nb.lt
                have hxl := HP4.out.xl
                have htp := HPW.out.1.top
                have hWW : W.heap.size ≤ W4.heap.size := HK4.out.size
                have hs6 := HP4.out.ps.lt
                have kA := (Keep.refl (fun j => (Value.slice A P.length c).ownBlock = some j) _).grown HG7.out (fun j e _ => e)
                have qnb : Blk w7 xb 3 #[.int .i64 x] := (HP4.out.nb.alloc _).keep kA (fun e => HP4.out.ax xb (hAm _ e) rfl)
                have qyy := (HZ5.out.alloc (.cells #[.int .i64 (i : Int)] 3)).keep kA (fun e => by have := hAlt _ (hAm _ e); omega)
                have qwh := (HP4.out.wh.alloc (.cells #[.int .i64 (i : Int)] 3)).keep kA (fun e => by have := HOa.out.block _ e; omega)
                have QNB := hid qnb
                have QWH := hid qwh
                have p8 : (w7.setCell ⟨h6 + 1, 0, none⟩ (.slice A7 (P.length + 1) c7)).cell? ⟨yy, 1, none⟩ = some (.int .i64 (tb : Int)) := ((qyy.far (show yy ≠ (⟨h6 + 1, 0, none⟩ : Addr).block from by show yy ≠ h6 + 1; omega) _).at_ 1).trans (by rw [← HE.out.2.2]; rfl)
                have c16 : (w7.setCell ⟨h6 + 1, 0, none⟩ (.slice A7 (P.length + 1) c7)).cell? ⟨xb, 0, none⟩ = some (.int .i64 x) := (qnb.far (show xb ≠ (⟨h6 + 1, 0, none⟩ : Addr).block from by show xb ≠ h6 + 1; omega) _).at_ 0
                have f16 : (w7.setCell ⟨h6 + 1, 0, none⟩ (.slice A7 (P.length + 1) c7)).frozen? ⟨xb, 0, none⟩ = false := (qnb.far (show xb ≠ (⟨h6 + 1, 0, none⟩ : Addr).block from by show xb ≠ h6 + 1; omega) _).free 0
                have HST := hid (((((St.of_same (s := s) (B := 0) HK4.out).trans (St.alloc s 0 W4 (.cells #[.int .i64 (i : Int)] 3))).trans (St.grown 0 HOa.out HG7.out (by omega))).trans (St.put 0 w7 0 (.slice A7 (P.length + 1) c7) (show s ≤ h6 + 1 by omega))).trans (St.put 0 _ 0 (.int .i64 (tb : Int)) (show s ≤ xb by omega)))
                have kAll : Keep (fun j => h6 < j) W4 ((w7.setCell ⟨h6 + 1, 0, none⟩ (.slice A7 (P.length + 1) c7)).setCell ⟨xb, 0, none⟩ (.int .i64 (tb : Int))) :=
                  ((((Keep.refl _ W4).alloc (.cells #[.int .i64 (i : Int)] 3)).grown HG7.out (fun j e _ => by have := HOa.out.block j e; show h6 < j; omega)).setCell (fun _ => by show h6 < h6 + 1; omega) _).setCell (fun _ => by show h6 < xb; omega) _
                have hA7 : ∀ j, A7.map (·.block) = some j → j ≠ xb := fun j hj => by
                  rcases HW7.out with h | h
                  · rw [h] at hj; exact HP4.out.ax j (hAm j hj)
                  · rw [h, World.size_alloc] at hj
                    injection hj with hj
                    omega
                have hlt1 : D tb < D x := by have h1 := HSM.out; have h2 := HEQ.out; have h3 := HDT.out; omega
                have hnear := near_strict (D := D) (E := D) (x := D tb) (y := D x) (u := tb) N htN (fun z _ hz => by omega) (by omega) hlt1
                have hPL : (P ++ [i]).length = P.length + 1 := by simp
                have HFW := hid (show PW w ((w7.setCell ⟨h6 + 1, 0, none⟩ (.slice A7 (P.length + 1) c7)).setCell ⟨xb, 0, none⟩ (.int .i64 (tb : Int))) g s h R h6 R6 N l times D a tb (P ++ [i]) A7 c7 xb ds (fun k => if k ≤ P.length then nu k else (tb : Int)) from by
                  refine ⟨HP4.out.ps.keep kAll (fun _ e => e), ?_, ?_, ?_, hxl, hA7, HPW.out.1.mks.st HST.out.kf, HP4.out.md, Nat.le_trans HP4.out.top kAll.size, htN, ?_, ?_, HP4.out.way.snoc HE.out.1 HE.out.2.1 HE.out.2.2, ?_⟩
                  · rw [hPL]
                    have := (QWH.out.put 0 (.slice A7 (P.length + 1) c7)).far (show h6 + 1 ≠ (⟨xb, 0, none⟩ : Addr).block from by show h6 + 1 ≠ xb; omega) (.int .i64 (tb : Int))
                    simpa using this
                  · rw [hPL]
                    refine (HO7.out.keepB ((Keep.refl (· = h6 + 1) w7).put 0 _) (fun j hj e => by have := HO7.out.block j hj; have : j = h6 + 1 := e; omega)).keepB ((Keep.refl (· = xb) _).put 0 _) (fun j hj e => hA7 j (by rw [← hj]; cases A7 <;> rfl) e)
                  · have := (QNB.out.far (show xb ≠ (⟨h6 + 1, 0, none⟩ : Addr).block from by show xb ≠ h6 + 1; omega) (.slice A7 (P.length + 1) c7)).put 0 (.int .i64 (tb : Int))
                    simpa using this
                  · have h4 := (HD6.out.lo x hxN).2
                    unfold INF at h4
                    show D tb ≠ INF
                    unfold INF
                    omega
                  · have := HP4.out.len; rw [hPL]; omega
                  · intro k j hj
                    rcases Nat.lt_or_ge k P.length with hk | hk
                    · rw [List.getElem?_append_left hk] at hj
                      have := HP4.out.fit k j hj
                      simpa [Nat.le_of_lt hk] using this
                    · have hke : k = P.length := by have := (List.getElem?_eq_some_iff.1 hj).1; rw [hPL] at this; omega
                      subst hke
                      simp at hj
                      subst hj
                      simp only [Nat.le_refl, if_true, HP4.out.way.en]
                      refine ⟨e, HE.out.1, HE.out.2.1, by rw [← HV.out]; exact HVI.out, ?_⟩
                      rw [HE.out.2.2, ← HV.out]
                      simp only [Int.toNat_natCast]
                      have h1 := HSM.out; have h2 := HEQ.out; have h3 := HDT.out
                      omega)
                have htW := HPW.out.1.top
                have HNR := hid (show near D (D tb) N < near D (D x) N by omega)
                clear kAll kA qnb qyy qwh hnear hlt1
                gi_wp2
                first
                  | exact ⟨KeepsFrom.up HST.out.kf, rfl, tb, HNR.out, i, A7, c7, HFW.out⟩
                  | exact ⟨KeepsFrom.up HST.out.kf, rfl, tb, i, A7, c7, HNR.out, HFW.out⟩
              · have hb0 : (sm == dx) = false := by rw [beq_eq_false_iff_ne]; exact heq
                have HNF := hid (show ¬ Fit l times D x i from fun ⟨e1, h1, h2, h3, h4⟩ => by
                  rw [HE.out.1] at h1
                  injection h1 with h1
                  subst h1
                  rw [HE.out.2.2, ← HV.out] at h4
                  simp only [Int.toNat_natCast] at h4
                  rw [← HDT.out.1, ← HDT.out.2] at h4
                  exact heq (by rw [HSM.out]; exact h4))
                clear heq
                refine wpIn_region_quiet_round (by kernel_rfl) (by kernel_rfl) (by kernel_rfl) ?_
                repeat (go_big_quiet_step (fail))
                refine wpQuiet_nil ?_
                intro _ hw1
                obtain ⟨nq, hw2⟩ := hw1
                subst hw2
                have kd : Same W (W3.drewN nq) := HKW.out.then ((Keep.refl (fun _ => False) W3).drewN nq)
                have HIN := hid (show PW w (W3.drewN nq) g s h R h6 R6 N l times D a x P A c xb ds nu ∧ ∀ j : Nat, (j : Int) ∈ (pre ++ [(⟨(i : Int), hy⟩ : { y : Int // y ∈ outP E3.a l x l.length })]).map (·.1) → ¬ Fit l times D x j from ⟨HPW.out.1.keep kd, fun j hj => by
                  rw [List.map_append, List.mem_append] at hj
                  rcases hj with hj | hj
                  · exact HPW.out.2 j hj
                  · simp only [List.map_cons, List.map_nil, List.mem_singleton] at hj
                    have : j = i := by omega
                    subst this
                    exact HNF.out⟩)
                have HST := hid (show St s 0 W (W3.drewN nq) from St.of_same kd)
                have htW := HPW.out.1.top
                clear kd
                gi_wp2
                exact ⟨KeepsFrom.up HST.out.kf, HST.out.below (by omega), HIN.out⟩
          case stop2 =>
            rintro Dd cd pre W hD _ ⟨rfl, y, i, A', c', hm, hpw⟩ hKD
            have cx : W.cell? ⟨xb, 0, none⟩ = some (.int .i64 y) := hpw.nb.at_ 0
            have ka : Same W (W.alloc (.cells #[.int .i64 (y : Int)] 3)) := (Keep.refl (fun _ => False) W).alloc _
            have hq := hpw.keep ka
            have hlt := hpw.top
            have HF := hid (show PW w (W.alloc (.cells #[.int .i64 (y : Int)] 3)) g s h R h6 R6 N l times D a y (P ++ [i]) A' c' W.heap.size (Dd :: ds) (fun k => if k ≤ P.length then nu k else (y : Int)) from
              ⟨hq.ps, hq.wh, hq.wo, Blk.made _ _ _, by omega, (fun j hj => by
                rcases hpw.wo.2 with ⟨e2, _⟩ | ⟨gg, cap, cur, e2, _, hh, _⟩
                · injection e2 with e2 _ _; subst e2; cases hj
                · injection e2 with e2 _ _; subst e2
                  injection hj with hj
                  subst hj
                  have := Blk.lt (t := 3) (cs := cur) hh
                  show gg ≠ W.heap.size
                  omega), (hpw.mks.cons hKD (fun hm2 => by have := HM1.out Dd hm2; omega)).keep ka (fun _ _ f => f.elim), (fun E hE => by
                rcases List.mem_cons.1 hE with rfl | hE
                · omega
                · exact HMD.out E hE), hq.top, hq.xN, hq.fx, hq.len, hq.way, hq.fit⟩)
            have HM := hid hm
            clear hpw hq hKD ka hrow hsl hrow0 hsl0
            try dsimp only
            gi_wp2
            exact ⟨(y, P ++ [i]), ⟨Dd :: ds, A', c', W.heap.size, _, HF, frame_fn (by rfl)⟩, HM.out⟩
          case done2 =>
            rintro Dd ys W hD hys hI hKD
            exfalso
            obtain ⟨i, h1, h2, h3, h4, h5⟩ := HD6.out.att x hxN hxb hI.1.fx
            obtain ⟨e, he⟩ := get_some (l := l) (k := i) h1
            have hoe := HOK.out e (List.mem_of_getElem? he)
            have t1 : ((l[i]?.map E3.a).getD 0).toNat = x := h2
            have t2 : (upL times l.length)[i]?.getD INF ≠ INF := h3
            have t3 : D ((l[i]?.map E3.b).getD 0).toNat + (upL times l.length)[i]?.getD INF = D x := h5
            have t4 : (upL times l.length)[i]? = some (up (ttA times i)) := by simp [upL, show i < l.length from h1]
            rw [he] at t1 t3
            rw [t4] at t2 t3
            have t1' : (E3.a e).toNat = x := t1
            have t3' : D (E3.b e).toNat + up (ttA times i) = D x := t3
            refine hI.2 i (by rw [hys]; exact outP_mem.2 ⟨i, e, h1, he, by omega, rfl⟩) ⟨e, he, by omega, t2, ?_⟩
            rw [Int.toNat_natCast]; omega
end Go.Proofs.Ytmllpapkgfclkaa

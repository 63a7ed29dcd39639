import Derived.Test.YtmllpapkgfclkaaTpB
import Derived.Deep.RegionHeld3
import Derived.Deep.Cut
import Derived.Deep.CutRange
import Derived.RegionTactic
namespace Go.Proofs.Ytmllpapkgfclkaa
open Go.RowKit

/-! ## The graph: the numbers of the edges that leave a node (f = E3.a) or enter it (f = E3.b) -/
theorem one_restG {F G : Option Addr → Nat → Nat → World → Prop} {goal : Prop} (main : (∀ x c g W, F x c g W → G x c g W) → goal) (rest : ∀ x c g W, F x c g W → G x c g W) : goal := main rest
def hitE (f : E3 → Int) (l : List E3) (h i : Nat) : Bool := match l[i]? with | some e => decide (f e = (h : Int)) | none => false
def outP (f : E3 → Int) (l : List E3) (h k : Nat) : List Int := ((List.range k).filter (hitE f l h)).map Int.ofNat
theorem outP_snoc {f : E3 → Int} {l : List E3} {k : Nat} {e : E3} (h : Nat) (he : l[k]? = some e) : outP f l h (k + 1) = outP f l h k ++ (if f e = (h : Int) then [(k : Int)] else []) := by
  unfold outP
  rw [List.range_succ, List.filter_append, List.map_append]
  congr 1
  by_cases e1 : f e = (h : Int) <;> simp [hitE, he, e1]
theorem outP_le (f : E3 → Int) (l : List E3) (h k : Nat) : (outP f l h k).length ≤ k := by
  unfold outP; rw [List.length_map]; exact Nat.le_trans (List.length_filter_le _ _) (by rw [List.length_range]; exact Nat.le_refl _)
theorem outP_mem {f : E3 → Int} {l : List E3} {h k : Nat} {x : Int} : x ∈ outP f l h k ↔ ∃ (i : Nat) (e : E3), i < k ∧ l[i]? = some e ∧ f e = (h : Int) ∧ x = (i : Int) := by
  unfold outP
  rw [List.mem_map]
  constructor
  · rintro ⟨i, hi, rfl⟩
    obtain ⟨h1, h2⟩ := List.mem_filter.1 hi
    unfold hitE at h2
    cases he : l[i]? with
    | none => rw [he] at h2; cases h2
    | some e => rw [he] at h2; exact ⟨i, e, List.mem_range.1 h1, he, by simpa using h2, rfl⟩
  · rintro ⟨i, e, h1, h2, h3, rfl⟩
    exact ⟨i, List.mem_filter.2 ⟨List.mem_range.2 h1, by simp [hitE, h2, h3]⟩, rfl⟩
def rowsG (f : E3 → Int) (N : Nat) (l : List E3) (k : Nat) : List (List Int) := (List.range N).map fun h => outP f l h k
theorem rowsG_zero (f : E3 → Int) (N : Nat) (l : List E3) : rowsG f N l 0 = List.replicate N [] := by
  rw [rowsG, show (fun h => outP f l h 0) = fun _ => [] from rfl, List.map_const', List.length_range]
theorem rowsG_at {f : E3 → Int} {N : Nat} {l : List E3} {h : Nat} (k : Nat) (hh : h < N) : (rowsG f N l k)[h]? = some (outP f l h k) := by simp [rowsG, hh]
theorem rowsG_len (f : E3 → Int) (N : Nat) (l : List E3) (k : Nat) : (rowsG f N l k).length = N := by simp [rowsG]
theorem rowsG_set {f : E3 → Int} {N : Nat} {l : List E3} {k d : Nat} {e : E3} (he : l[k]? = some e) (hf : f e = (d : Int)) (hd : d < N) : (rowsG f N l k).set d (outP f l d k ++ [(k : Int)]) = rowsG f N l (k + 1) := by
  apply List.ext_getElem?
  intro i
  rw [List.getElem?_set]
  rcases Nat.lt_or_ge i N with hi | hi
  · by_cases e1 : d = i
    · subst e1
      rw [if_pos rfl, if_pos (by rw [rowsG_len]; exact hd), rowsG_at _ hi, outP_snoc _ he, if_pos hf]
    · rw [if_neg e1, rowsG_at _ hi, rowsG_at _ hi, outP_snoc _ he, if_neg (by omega), List.append_nil]
  · have h1 : (rowsG f N l (k + 1))[i]? = none := List.getElem?_eq_none (by rw [rowsG_len]; exact hi)
    have h2 : (rowsG f N l k)[i]? = none := List.getElem?_eq_none (by rw [rowsG_len]; exact hi)
    rw [h1, h2]
    by_cases e1 : d = i
    · omega
    · rw [if_neg e1]
theorem slBlockG {x : Option Addr} {n c : Nat} : (Value.slice x n c).ownBlock = x.map (·.block) := by cases x <;> rfl
def RowsApart (V U : List Value) : Prop := ∀ (h k : Nat) (v u : Value), V[h]? = some v → U[k]? = some u → ∀ x, v.ownBlock = some x → u.ownBlock ≠ some x
/-- build, midway: the rows of the out table hold the first ko edges, those of the in table the first ki. -/
structure BG (w wr : World) (g po pi base N : Nat) (E : Option Addr) (cE : Nat) (l : List E3) (ko ki : Nat) (Vo Vi : List Value) : Prop where
  same : Same w wr
  hdr : Blk wr g 72 #[.slice E l.length cE, .slice (some ⟨po, 0, none⟩) N N, .slice (some ⟨pi, 0, none⟩) N N]
  tbo : Tbl wr base po Vo (rowsG E3.a N l ko)
  tbi : Tbl wr base pi Vi (rowsG E3.b N l ki)
  ap : RowsApart Vo Vi
  g0 : w.heap.size ≤ g
  o0 : w.heap.size ≤ po
  i0 : w.heap.size ≤ pi
  gb : g < base
  ob : po < base
  ib : pi < base
  go : g ≠ po
  gi : g ≠ pi
  oi : po ≠ pi
  top : base ≤ wr.heap.size
section
variable {w wr w1 w7 : World} {g po pi base N : Nat} {E x : Option Addr} {cE y ko ki d k : Nat} {l : List E3} {Vo Vi : List Value} {v : Value} {e : E3}
theorem BG.more (h : BG w wr g po pi base N E cE l ko ki Vo Vi) (hk : Same wr w1) : BG w w1 g po pi base N E cE l ko ki Vo Vi :=
  ⟨h.same.then hk, h.hdr.keep hk (fun f => f), h.tbo.same hk, h.tbi.same hk, h.ap, h.g0, h.o0, h.i0, h.gb, h.ob, h.ib, h.go, h.gi, h.oi, Nat.le_trans h.top hk.size⟩
theorem BG.out (h : BG w w1 g po pi base N E cE l k k Vo Vi) (he : l[k]? = some e) (hf : e.a = (d : Int)) (hd : d < N) (hv : Vo[d]? = some v) (hg : w1.grownBy w7 v.ownBlock)
    (ho : Own w7 base 3 1 (.slice x ((outP E3.a l d k).length + 1) y) ((outP E3.a l d k).length + 1) (icellsC (outP E3.a l d k ++ [(k : Int)]))) (hw : x.map (·.block) = v.ownBlock ∨ x.map (·.block) = some w1.heap.size) :
    BG w (w7.setCell ⟨po, d, none⟩ (.slice x ((outP E3.a l d k).length + 1) y)) g po pi base N E cE l (k + 1) k (Vo.set d (.slice x ((outP E3.a l d k).length + 1) y)) Vi := by
  have hG : Keep (fun i => v.ownBlock = some i) w1 w7 := (Keep.refl _ _).grown hg (fun x e _ => e)
  have hP : Keep (· = po) w7 (w7.setCell ⟨po, d, none⟩ (.slice x ((outP E3.a l d k).length + 1) y)) := (Keep.refl (· = po) w7).put _ _
  have hb := fun i e => (h.tbo.blocks hv i e).1
  have q1 := h.gb; have q2 := h.ob; have q3 := h.ib; have q4 := h.o0; have q5 := h.g0; have q6 := h.i0; have q7 := h.top; have q8 := h.same.size
  refine ⟨(h.same.trans hG (fun i hi e => by have := hb i e; omega)).trans hP (fun i hi e => by have e2 : i = po := e; omega), (h.hdr.keep hG (fun e => by have := hb g e; omega)).keep hP h.go, ?_, ?_, ?_, h.g0, h.o0, h.i0, h.gb, h.ob, h.ib, h.go, h.gi, h.oi, Nat.le_trans (Nat.le_trans h.top hG.size) hP.size⟩
  · have := h.tbo.add (news := [(k : Int)]) hv (rowsG_at (f := E3.a) k hd) hg (by simpa [icT, icellsC] using ho) (by
      rw [slBlockG]
      rcases hw with e | e
      · exact Or.inl e
      · exact Or.inr ⟨_, e, Nat.le_refl _⟩)
    rwa [rowsG_set he hf hd] at this
  · exact (h.tbi.keep hG (fun e => by have := hb pi e; omega) (fun i u hu z hz e => h.ap _ _ _ _ hv hu z e hz)).keep hP (fun e => h.oi e.symm) (fun i u hu z hz e => by
      have e2 : z = po := e
      have := (h.tbi.blocks hu z hz).1; omega)
  · intro i j u t hu ht z hz
    rw [List.getElem?_set] at hu
    by_cases e1 : d = i
    · rw [if_pos e1] at hu
      split at hu
      · cases Option.some.inj hu
        rw [slBlockG] at hz
        rcases hw with q | q
        · rw [q] at hz; exact h.ap _ _ _ _ hv ht z hz
        · rw [q] at hz; injection hz with hz
          intro f
          have := (h.tbi.blocks ht z f).2; omega
      · cases hu
    · rw [if_neg e1] at hu; exact h.ap _ _ _ _ hu ht z hz
theorem BG.ins (h : BG w w1 g po pi base N E cE l (k + 1) k Vo Vi) (he : l[k]? = some e) (hf : e.b = (d : Int)) (hd : d < N) (hv : Vi[d]? = some v) (hg : w1.grownBy w7 v.ownBlock)
    (ho : Own w7 base 3 1 (.slice x ((outP E3.b l d k).length + 1) y) ((outP E3.b l d k).length + 1) (icellsC (outP E3.b l d k ++ [(k : Int)]))) (hw : x.map (·.block) = v.ownBlock ∨ x.map (·.block) = some w1.heap.size) :
    BG w (w7.setCell ⟨pi, d, none⟩ (.slice x ((outP E3.b l d k).length + 1) y)) g po pi base N E cE l (k + 1) (k + 1) Vo (Vi.set d (.slice x ((outP E3.b l d k).length + 1) y)) := by
  have hG : Keep (fun i => v.ownBlock = some i) w1 w7 := (Keep.refl _ _).grown hg (fun x e _ => e)
  have hP : Keep (· = pi) w7 (w7.setCell ⟨pi, d, none⟩ (.slice x ((outP E3.b l d k).length + 1) y)) := (Keep.refl (· = pi) w7).put _ _
  have hb := fun i e => (h.tbi.blocks hv i e).1
  have q1 := h.gb; have q2 := h.ob; have q3 := h.ib; have q4 := h.o0; have q5 := h.g0; have q6 := h.i0; have q7 := h.top; have q8 := h.same.size
  refine ⟨(h.same.trans hG (fun i hi e => by have := hb i e; omega)).trans hP (fun i hi e => by have e2 : i = pi := e; omega), (h.hdr.keep hG (fun e => by have := hb g e; omega)).keep hP h.gi, ?_, ?_, ?_, h.g0, h.o0, h.i0, h.gb, h.ob, h.ib, h.go, h.gi, h.oi, Nat.le_trans (Nat.le_trans h.top hG.size) hP.size⟩
  · exact (h.tbo.keep hG (fun e => by have := hb po e; omega) (fun i u hu z hz e => h.ap _ _ _ _ hu hv z hz e)).keep hP (fun e => h.oi e) (fun i u hu z hz e => by
      have e2 : z = pi := e
      have := (h.tbo.blocks hu z hz).1; omega)
  · have := h.tbi.add (news := [(k : Int)]) hv (rowsG_at (f := E3.b) k hd) hg (by simpa [icT, icellsC] using ho) (by
      rw [slBlockG]
      rcases hw with e | e
      · exact Or.inl e
      · exact Or.inr ⟨_, e, Nat.le_refl _⟩)
    rwa [rowsG_set he hf hd] at this
  · intro i j u t hu ht z hz
    rw [List.getElem?_set] at ht
    by_cases e1 : d = j
    · rw [if_pos e1] at ht
      split at ht
      · cases Option.some.inj ht
        rw [slBlockG]
        rcases hw with q | q
        · rw [q]; exact h.ap _ _ _ _ hu hv z hz
        · rw [q]
          intro f; injection f with f
          have := (h.tbo.blocks hu z hz).2; omega
      · cases ht
    · rw [if_neg e1] at ht; exact h.ap _ _ _ _ hu ht z hz
end
/-- A graph in memory: N nodes, the edges l. -/
def RowsG (w : World) (p N : Nat) (f : E3 → Int) (l : List E3) : Prop := ∃ V : List Value, Blk w p 39 V.toArray ∧ V.length = N ∧ ∀ h, h < N → ∃ A c, V[h]? = some (.slice A (outP f l h l.length).length c) ∧ Sl w (fun _ => False) 1 A (outP f l h l.length).length (icellsC (outP f l h l.length))
structure IsG (w : World) (g N : Nat) (l : List E3) (E : Option Addr) (cE po pi : Nat) : Prop where
  hdr : Blk w g 72 #[.slice E l.length cE, .slice (some ⟨po, 0, none⟩) N N, .slice (some ⟨pi, 0, none⟩) N N]
  edg : Sl w (fun _ => False) 3 E l.length (e3cells l)
  outs : RowsG w po N E3.a l
  ins : RowsG w pi N E3.b l
theorem RowsG.same {w w' : World} {p N : Nat} {f : E3 → Int} {l : List E3} (h : RowsG w p N f l) (hk : Same w w') : RowsG w' p N f l := by
  obtain ⟨V, hb, hl, h⟩ := h
  exact ⟨V, hb.keep hk (fun f => f), hl, fun i hi => by
    obtain ⟨A, c, h1, h2⟩ := h i hi
    exact ⟨A, c, h1, h2.same hk⟩⟩
theorem IsG.same {w w' : World} {g N : Nat} {l : List E3} {E : Option Addr} {cE po pi : Nat} (h : IsG w g N l E cE po pi) (hk : Same w w') : IsG w' g N l E cE po pi :=
  ⟨h.hdr.keep hk (fun f => f), h.edg.same hk, h.outs.same hk, h.ins.same hk⟩
theorem RowsG.row {w : World} {p N h : Nat} {f : E3 → Int} {l : List E3} (hP : RowsG w p N f l) (hh : h < N) : ∃ A c, w.cell? ⟨p, h, none⟩ = some (.slice A (outP f l h l.length).length c) ∧ Sl w (fun _ => False) 1 A (outP f l h l.length).length (icellsC (outP f l h l.length)) := by
  obtain ⟨V, hb, hl, h⟩ := hP
  obtain ⟨A, c, h1, h2⟩ := h _ hh
  exact ⟨A, c, (hb.at_ _).trans (by simpa using h1), h2⟩
theorem Tbl.rows {w : World} {base p N : Nat} {V : List Value} {f : E3 → Int} {l : List E3} (h : Tbl w base p V (rowsG f N l l.length)) : RowsG w p N f l :=
  ⟨V, h.blk, by rw [h.len, rowsG_len], fun i hi => by
    obtain ⟨A, c, h1, h2, _⟩ := h.row (rowsG_at l.length hi)
    exact ⟨A, c, h1, h2.slN.wide (fun _ _ f => f.elim)⟩⟩
def GraphPost (w : World) (N : Nat) (l : List E3) (e : Ending) (w' : World) : Prop := ∃ g E cE po pi, e = .returned (.pointer (some ⟨g, 0, none⟩)) ∧ IsG w' g N l E cE po pi ∧ Same w w'

theorem build_start {w : World} {E : Option Addr} {cE N : Nat} {l : List E3} (W : World) (hk : Same w W) : BG w (((W.alloc (.cells (madeCells #[.slice none 0 0] N) 39)).alloc (.cells (madeCells #[.slice none 0 0] N) 39)).alloc (.cells #[.slice E l.length cE, .slice (some ⟨W.heap.size, 0, none⟩) N N, .slice (some ⟨W.heap.size + 1, 0, none⟩) N N] 72)) (W.heap.size + 1 + 1) W.heap.size (W.heap.size + 1) (W.heap.size + 1 + 1 + 1) N E cE l 0 0 (List.replicate N (.slice none 0 0)) (List.replicate N (.slice none 0 0)) := by
  have e : (madeCells #[.slice none 0 0] N) = (List.replicate N (Value.slice none 0 0)).toArray := by
    rw [← Array.toList_inj, toList_madeCells_one]
  rw [e]
  have hs := hk.size
  have t1 := Tbl.made W (W.heap.size + 1 + 1 + 1) N
  have t2 := Tbl.made (W.alloc (.cells (List.replicate N (Value.slice none 0 0)).toArray 39)) (W.heap.size + 1 + 1 + 1) N
  rw [World.size_alloc] at t2
  have hb := Blk.made ((W.alloc (.cells (List.replicate N (Value.slice none 0 0)).toArray 39)).alloc (.cells (List.replicate N (Value.slice none 0 0)).toArray 39)) 72 #[.slice E l.length cE, .slice (some ⟨W.heap.size, 0, none⟩) N N, .slice (some ⟨W.heap.size + 1, 0, none⟩) N N]
  rw [World.size_alloc, World.size_alloc] at hb
  refine ⟨((hk.alloc _).alloc _).alloc _, hb, by rw [rowsG_zero]; exact t1.same (((Keep.refl _ _).alloc _).alloc _), by rw [rowsG_zero]; exact t2.same ((Keep.refl _ _).alloc _), ?_, by omega, by omega, by omega, by omega, by omega, by omega, by omega, by omega, by omega, by simp⟩
  intro h k v u hv hu x hx
  rw [rep_some hv] at hx
  simp [Value.ownBlock] at hx
theorem build_start2 {w : World} {E : Option Addr} {cE N : Nat} {l : List E3} (W : World) (hk : Same w W) : BG w (((W.alloc (.cells (madeCells #[.slice none 0 0] N) 39)).alloc (.cells (madeCells #[.slice none 0 0] N) 39)).alloc (.cells #[.slice E l.length cE, .slice (some ⟨W.heap.size + 1, 0, none⟩) N N, .slice (some ⟨W.heap.size, 0, none⟩) N N] 72)) (W.heap.size + 1 + 1) (W.heap.size + 1) W.heap.size (W.heap.size + 1 + 1 + 1) N E cE l 0 0 (List.replicate N (.slice none 0 0)) (List.replicate N (.slice none 0 0)) := by
  have e : (madeCells #[.slice none 0 0] N) = (List.replicate N (Value.slice none 0 0)).toArray := by
    rw [← Array.toList_inj, toList_madeCells_one]
  rw [e]
  have hs := hk.size
  have t1 := Tbl.made W (W.heap.size + 1 + 1 + 1) N
  have t2 := Tbl.made (W.alloc (.cells (List.replicate N (Value.slice none 0 0)).toArray 39)) (W.heap.size + 1 + 1 + 1) N
  rw [World.size_alloc] at t2
  have hb := Blk.made ((W.alloc (.cells (List.replicate N (Value.slice none 0 0)).toArray 39)).alloc (.cells (List.replicate N (Value.slice none 0 0)).toArray 39)) 72 #[.slice E l.length cE, .slice (some ⟨W.heap.size + 1, 0, none⟩) N N, .slice (some ⟨W.heap.size, 0, none⟩) N N]
  rw [World.size_alloc, World.size_alloc] at hb
  refine ⟨((hk.alloc _).alloc _).alloc _, hb, by rw [rowsG_zero]; exact t2.same ((Keep.refl _ _).alloc _), by rw [rowsG_zero]; exact t1.same (((Keep.refl _ _).alloc _).alloc _), ?_, by omega, by omega, by omega, by omega, by omega, by omega, by omega, by omega, by omega, by simp⟩
  intro h k v u hv hu x hx
  rw [rep_some hv] at hx
  simp [Value.ownBlock] at hx

set_option maxRecDepth 100000 in
set_option maxHeartbeats 4000000 in
theorem build_any (w : World) (N : Nat) (E : Option Addr) (cE : Nat) (l : List E3) (hE : Sl w (fun _ => False) 3 E l.length (e3cells l)) (hN : N ≤ 4096) (hl : l.length ≤ 16384) (hok : ∀ e ∈ l, (0 ≤ e.a ∧ e.a < N) ∧ 0 ≤ e.b ∧ e.b < N) :
    Calls Try.prog 16 #[.int .i64 N, .slice E l.length cE] w (GraphPost w N l) := by
  have HE := hid hE
  have HOK := hid hok
  have hmk := fun W => EInts.make .i64 .i64 N N (by omega) (by omega) (by omega) (by omega) W
  clear hE hok
  go_enter Try.func16, Try.ntmps16
  go_upto_region 1 with fail
  go_cut [5] from 8 to 14 (fun u w' => ∃ g po pi base, u = .pointer (some ⟨g, 0, none⟩) ∧ Hid (BG w w' g po pi base N E cE l 0 0 (List.replicate N (.slice none 0 0)) (List.replicate N (.slice none 0 0))))
  case first =>
    have hB : ∀ W, Same w W → BG w (((W.alloc (.cells (madeCells #[.slice none 0 0] N) 39)).alloc (.cells (madeCells #[.slice none 0 0] N) 39)).alloc (.cells #[.slice E l.length cE, .slice (some ⟨W.heap.size, 0, none⟩) N N, .slice (some ⟨W.heap.size + 1, 0, none⟩) N N] 72)) (W.heap.size + 1 + 1) W.heap.size (W.heap.size + 1) (W.heap.size + 1 + 1 + 1) N E cE l 0 0 (List.replicate N (.slice none 0 0)) (List.replicate N (.slice none 0 0)) := build_start
    have hB2 : ∀ W, Same w W → BG w (((W.alloc (.cells (madeCells #[.slice none 0 0] N) 39)).alloc (.cells (madeCells #[.slice none 0 0] N) 39)).alloc (.cells #[.slice E l.length cE, .slice (some ⟨W.heap.size + 1, 0, none⟩) N N, .slice (some ⟨W.heap.size, 0, none⟩) N N] 72)) (W.heap.size + 1 + 1) (W.heap.size + 1) W.heap.size (W.heap.size + 1 + 1 + 1) N E cE l 0 0 (List.replicate N (.slice none 0 0)) (List.replicate N (.slice none 0 0)) := build_start2
    have HB := hid hB
    have HB2 := hid hB2
    clear hB hB2
    go_region
    all_goals
      go_wp2_with fail
      go_meet
      first
        | exact ⟨_, _, _, _, rfl, hid ((HB.out _ (Keep.refl _ w)).more (Keep.refl _ _).drew)⟩
        | exact ⟨_, _, _, _, rfl, hid ((HB2.out _ (Keep.refl _ w)).more (Keep.refl _ _).drew)⟩
        | exact ⟨_, _, _, _, rfl, hid (HB.out _ (Keep.refl _ w).drew)⟩
        | exact ⟨_, _, _, _, rfl, hid (HB2.out _ (Keep.refl _ w).drew)⟩
  case rest =>
    obtain ⟨g, po, pi, base, rfl, HB0⟩ := hcut
    clear hmk
    go_wp2_with fail
    go_loopw [17] (fun i wr => ∃ k : Nat, k ≤ l.length ∧ i = .int .i64 k ∧ Hid (∃ Vo Vi, BG w wr g po pi base N E cE l k k Vo Vi)) (fun i _ => l.length - (RowKit.intOf i).toNat)
    case atStart => exact ⟨0, Nat.zero_le _, rfl, _, _, HB0.out⟩
    case round =>
      obtain ⟨k, hk, rfl, HL⟩ := hrel
      clear HB0
      by_cases hkn : k < l.length
      · obtain ⟨Vo, Vi, hb⟩ := HL.out
        have HX := hid hb
        have hb0 := hb
        obtain ⟨e, he⟩ := get_some hkn
        obtain ⟨b1, o1, rfl, hb1, x0, x1, x2⟩ := e3_at (HE.out.same hb.same) he
        obtain ⟨⟨q1, q2⟩, q3, q4⟩ := HOK.out e (List.mem_of_getElem? he)
        obtain ⟨da, hda⟩ : ∃ n : Nat, e.a = n := ⟨_, (Int.toNat_of_nonneg q1).symm⟩
        obtain ⟨db, hdb⟩ : ∃ n : Nat, e.b = n := ⟨_, (Int.toNat_of_nonneg q3).symm⟩
        have HEk := hid he
        have HDA := hid hda
        have HDB := hid hdb
        rw [hda] at x0 q2
        rw [hdb] at x1 q4
        clear hb HL q1 q3 hda hdb he
        generalize htc : e.c = tc at x2
        clear htc
        have hz := Blk.made wr 49 #[.int .i64 (da : Int), .int .i64 (db : Int), .int .i64 tc]
        have HXa := hid (HX.out.more ((Keep.refl (fun _ => False) wr).alloc (.cells #[.int .i64 (da : Int), .int .i64 (db : Int), .int .i64 tc] 49)))
        clear HX
        have HQT := hid (show base ≤ wr.heap.size from hb0.top)
        go_upto_region 5 with fail
        clear x0 x1 x2
        generalize (wr.alloc (.cells #[.int .i64 (da : Int), .int .i64 (db : Int), .int .i64 tc] 49)) = v0 at *
        have HQLo0 := hid (fun i v (hv : Vo[i]? = some v) z hz => (hb0.tbo.blocks hv z hz).2)
        have HQLi0 := hid (fun i v (hv : Vi[i]? = some v) z hz => (hb0.tbi.blocks hv z hz).2)
        clear hb0
        generalize wr.heap.size = q at *
        have hqb := HQT.out
        have HZ := hid hz
        clear hz
        obtain ⟨PA, pc, hV, _, _⟩ := HXa.out.tbo.row (rowsG_at (f := E3.a) k (show da < N by omega))
        have HV := hid hV
        have HQLo := hid (fun z hz => HQLo0.out _ _ hV z hz)
        have hle := outP_le E3.a l da k
        have hkI : (k : Int) < (l.length : Int) := by omega
        have hi0 : (0 : Int) ≤ (da : Int) := Int.natCast_nonneg _
        have fo := HXa.out.tbo.blk.free da
        clear hV
        refine wp_region_held_drew (S := fun W => W.cell? ⟨g, 1, none⟩ = some (.slice (some ⟨po, 0, none⟩) N N) ∧ W.cell? ⟨q, 0, none⟩ = some (.int .i64 (da : Int))) (by kernel_rfl) ⟨(HXa.out.hdr.at_ 1).trans rfl, (HZ.out.at_ 0).trans rfl⟩ (fun hHeld => ?_)
        refine takeO (i := 0) (v := ?_) (by kernel_rfl) (by kernel_rfl) (by kernel_rfl) (fun c a d v w h => by cases d <;> exact h) (oi := ?_) ?_ ?_ (by assumption) ?_
        rotate_left 2
        · (simp only [List.getElem?_toArray, List.getElem?_cons_zero]; rfl)
        · (refine Or.inl ⟨by rfl, ?_⟩; intro w hSw; (try dsimp only at hSw); obtain ⟨hS1, hS2⟩ := hSw; go_simp; try with_reducible rfl)
        try simp only [Act.put, List.setIfInBounds_toArray, List.set_cons_zero, List.set_cons_succ]
        refine takeO (i := 1) (v := ?_) (by kernel_rfl) (by kernel_rfl) (by kernel_rfl) (fun c a d v w h => by cases d <;> exact h) (oi := ?_) ?_ ?_ (by assumption) ?_
        rotate_left 2
        · (simp only [List.getElem?_toArray, List.getElem?_cons_succ, List.getElem?_cons_zero]; rfl)
        · (refine Or.inl ⟨by rfl, ?_⟩; intro w hSw; (try dsimp only at hSw); obtain ⟨hS1, hS2⟩ := hSw; go_simp; try with_reducible rfl)
        try simp only [Act.put, List.setIfInBounds_toArray, List.set_cons_zero, List.set_cons_succ]
        refine takeO (i := 2) (v := ?_) (by kernel_rfl) (by kernel_rfl) (by kernel_rfl) (fun c a d v w h => by cases d <;> exact h) (oi := ?_) ?_ ?_ (by assumption) ?_
        rotate_left 2
        · (simp only [List.getElem?_toArray, List.getElem?_cons_succ, List.getElem?_cons_zero]; rfl)
        · (refine Or.inl ⟨by rfl, ?_⟩; intro w hSw; (try dsimp only at hSw); obtain ⟨hS1, hS2⟩ := hSw; go_simp; try with_reducible rfl)
        try simp only [Act.put, List.setIfInBounds_toArray, List.set_cons_zero, List.set_cons_succ]
        refine takeO (i := 3) (v := ?_) (by kernel_rfl) (by kernel_rfl) (by kernel_rfl) (fun c a d v w h => by cases d <;> exact h) (oi := ?_) ?_ ?_ (by assumption) ?_
        rotate_left 2
        · (simp only [List.getElem?_toArray, List.getElem?_cons_succ, List.getElem?_cons_zero]; rfl)
        · (refine Or.inl ⟨by rfl, ?_⟩; intro w hSw; (try dsimp only at hSw); obtain ⟨hS1, hS2⟩ := hSw; go_simp; try with_reducible rfl)
        try simp only [Act.put, List.setIfInBounds_toArray, List.set_cons_zero, List.set_cons_succ]
        refine takeO (i := 4) (v := ?_) (by kernel_rfl) (by kernel_rfl) (by kernel_rfl) (fun c a d v w h => by cases d <;> exact h) (oi := ?_) ?_ ?_ (by assumption) ?_
        rotate_left 2
        · (simp only [List.getElem?_toArray, List.getElem?_cons_succ, List.getElem?_cons_zero]; rfl)
        · (refine Or.inl ⟨by rfl, ?_⟩; intro w hSw; (try dsimp only at hSw); obtain ⟨hS1, hS2⟩ := hSw; go_simp; try with_reducible rfl)
        try simp only [Act.put, List.setIfInBounds_toArray, List.set_cons_zero, List.set_cons_succ]
        refine takeO (i := 5) (v := ?_) (by kernel_rfl) (by kernel_rfl) (by kernel_rfl) (fun c a d v w h => by cases d <;> exact h) (oi := ?_) ?_ ?_ (by assumption) ?_
        rotate_left 2
        · (simp only [List.getElem?_toArray, List.getElem?_cons_succ, List.getElem?_cons_zero]; rfl)
        · (refine Or.inl ⟨by rfl, ?_⟩; intro w hSw; (try dsimp only at hSw); obtain ⟨hS1, hS2⟩ := hSw; go_simp; try with_reducible rfl)
        try simp only [Act.put, List.setIfInBounds_toArray, List.set_cons_zero, List.set_cons_succ]
        refine takeO (i := 6) (v := ?_) (by kernel_rfl) (by kernel_rfl) (by kernel_rfl) (fun c a d v w h => by cases d <;> exact h) (oi := ?_) ?_ ?_ (by assumption) ?_
        rotate_left 2
        · (simp only [List.getElem?_toArray, List.getElem?_cons_succ, List.getElem?_cons_zero]; rfl)
        · (refine Or.inl ⟨by rfl, ?_⟩; intro w hSw; (try dsimp only at hSw); obtain ⟨hS1, hS2⟩ := hSw; go_simp; try with_reducible rfl)
        try simp only [Act.put, List.setIfInBounds_toArray, List.set_cons_zero, List.set_cons_succ]
        refine takeO (i := 7) (v := ?_) (by kernel_rfl) (by kernel_rfl) (by kernel_rfl) (fun c a d v w h => by cases d <;> exact h) (oi := ?_) ?_ ?_ (by assumption) ?_
        rotate_left 2
        · (simp only [List.getElem?_toArray, List.getElem?_cons_succ, List.getElem?_cons_zero]; rfl)
        · (refine Or.inl ⟨by rfl, ?_⟩; intro w hSw; (try dsimp only at hSw); obtain ⟨hS1, hS2⟩ := hSw; go_simp; try with_reducible rfl)
        try simp only [Act.put, List.setIfInBounds_toArray, List.set_cons_zero, List.set_cons_succ]
        refine takeO (i := 8) (v := ?_) (by kernel_rfl) (by kernel_rfl) (by kernel_rfl) (fun c a d v w h => by cases d <;> exact h) (oi := ?_) ?_ ?_ (by assumption) ?_
        rotate_left 2
        · (simp only [List.getElem?_toArray, List.getElem?_cons_succ, List.getElem?_cons_zero]; rfl)
        · (refine Or.inl ⟨by rfl, ?_⟩; intro w hSw; (try dsimp only at hSw); obtain ⟨hS1, hS2⟩ := hSw; go_simp; try with_reducible rfl)
        try simp only [Act.put, List.setIfInBounds_toArray, List.set_cons_zero, List.set_cons_succ]
        refine takeO (i := 9) (v := ?_) (by kernel_rfl) (by kernel_rfl) (by kernel_rfl) (fun c a d v w h => by cases d <;> exact h) (oi := ?_) ?_ ?_ (by assumption) ?_
        rotate_left 2
        · (simp only [List.getElem?_toArray, List.getElem?_cons_succ, List.getElem?_cons_zero]; rfl)
        · (refine Or.inl ⟨by rfl, ?_⟩; intro w hSw; (try dsimp only at hSw); obtain ⟨hS1, hS2⟩ := hSw; go_simp; try with_reducible rfl)
        try simp only [Act.put, List.setIfInBounds_toArray, List.set_cons_zero, List.set_cons_succ]
        refine takeO (i := 10) (v := ?_) (by kernel_rfl) (by kernel_rfl) (by kernel_rfl) (fun c a d v w h => by cases d <;> exact h) (oi := ?_) ?_ ?_ (by assumption) ?_
        rotate_left 2
        · (simp only [List.getElem?_toArray, List.getElem?_cons_succ, List.getElem?_cons_zero]; rfl)
        · (refine Or.inl ⟨by rfl, ?_⟩; intro w hSw; (try dsimp only at hSw); obtain ⟨hS1, hS2⟩ := hSw; go_simp; try with_reducible rfl)
        try simp only [Act.put, List.setIfInBounds_toArray, List.set_cons_zero, List.set_cons_succ]
        refine takeO (i := 11) (v := ?_) (by kernel_rfl) (by kernel_rfl) (by kernel_rfl) (fun c a d v w h => by cases d <;> exact h) (oi := ?_) ?_ ?_ (by assumption) ?_
        rotate_left 2
        · (simp only [List.getElem?_toArray, List.getElem?_cons_succ, List.getElem?_cons_zero]; rfl)
        · (refine Or.inl ⟨by rfl, ?_⟩; intro w hSw; (try dsimp only at hSw); obtain ⟨hS1, hS2⟩ := hSw; go_simp; try with_reducible rfl)
        try simp only [Act.put, List.setIfInBounds_toArray, List.set_cons_zero, List.set_cons_succ]
        refine takeO (i := 12) (v := ?_) (by kernel_rfl) (by kernel_rfl) (by kernel_rfl) (fun c a d v w h => by cases d <;> exact h) (oi := ?_) ?_ ?_ (by assumption) ?_
        rotate_left 2
        · (simp only [List.getElem?_toArray, List.getElem?_cons_succ, List.getElem?_cons_zero]; rfl)
        · (refine Or.inl ⟨by rfl, ?_⟩; intro w hSw; (try dsimp only at hSw); obtain ⟨hS1, hS2⟩ := hSw; go_simp; try with_reducible rfl)
        try simp only [Act.put, List.setIfInBounds_toArray, List.set_cons_zero, List.set_cons_succ]
        refine takeO (i := 14) (v := ?_) (by kernel_rfl) (by kernel_rfl) (by kernel_rfl) (fun c a d v w h => by cases d <;> exact h) (oi := ?_) ?_ ?_ (by assumption) ?_
        rotate_left 2
        · (simp only [List.getElem?_toArray, List.getElem?_cons_succ, List.getElem?_cons_zero]; rfl)
        · (refine Or.inl ⟨by rfl, ?_⟩; intro w hSw; (try dsimp only at hSw); obtain ⟨hS1, hS2⟩ := hSw; go_simp; try with_reducible rfl)
        try simp only [Act.put, List.setIfInBounds_toArray, List.set_cons_zero, List.set_cons_succ]
        have HXdo := hid (HXa.out.more (Keep.refl (fun _ => False) _).drew)
        have HZdo := hid (HZ.out.keep (Keep.refl (fun _ => False) _).drew (fun f => f))
        clear hHeld
        generalize v0.drew = wd at *
        apply one_restG (F := fun _ _ _ W => ∃ V, BG w W g po pi base N (some ⟨b1, o1, none⟩) cE l (k + 1) k V Vi ∧ Blk W q 49 #[.int .i64 (da : Int), .int .i64 (db : Int), .int .i64 tc])
        case main =>
          intro REST
          refine wpAnyH_ready (rs := [13, 15]) (by kernel_rfl) (by simp) ?_
          refine AllReadyH.cons rfl (fun K hK => ?_) (AllReadyH.cons rfl (fun K hK => ?_) AllReadyH.nil)
          · have e1 : wd.cell? ⟨po, da, none⟩ = some (.slice PA (outP E3.a l da k).length pc) := (HXdo.out.tbo.blk.at_ _).trans (by simpa using HV.out)
            go_simp
            clear e1
            refine hK.out _ _ ⟨(HXdo.out.hdr.at_ 1).trans rfl, (HZdo.out.at_ 0).trans rfl⟩ (fun hHeld1 => ?_)
            clear hK K
            try simp only [Act.put, List.setIfInBounds_toArray, List.set_cons_zero, List.set_cons_succ]
            refine wpAnyH_ready (rs := [15]) (by kernel_rfl) (by simp) ?_
            refine AllReadyH.cons rfl (fun K hK => ?_) AllReadyH.nil
            go_simp
            have hb2 := Blk.made wd 3 #[.int .i64 (k : Int)]
            have hk2 : Same wd (wd.alloc (.cells #[.int .i64 (k : Int)] 3)) := (Keep.refl _ _).alloc _
            have HX2 := hid (HXdo.out.more hk2)
            have HZ2 := hid (HZdo.out.keep hk2 (fun f => f))
            obtain ⟨g2, hg2⟩ : ∃ g, g = wd.heap.size := ⟨_, rfl⟩
            rw [← hg2] at hb2 ⊢
            clear hg2 hk2
            generalize (wd.alloc (.cells #[.int .i64 (k : Int)] 3)) = q2 at *
            refine hK.out _ _ ⟨(HX2.out.hdr.at_ 1).trans rfl, (HZ2.out.at_ 0).trans rfl⟩ (fun hHeld2 => ?_)
            clear hK K
            try simp only [Act.put, List.setIfInBounds_toArray, List.set_cons_zero, List.set_cons_succ]
            refine wpAnyH_ready (rs := [16]) (by kernel_rfl) (by simp) ?_
            refine AllReadyH.cons rfl (fun K hK => ?_) AllReadyH.nil
            obtain ⟨PA', pc', hV', hPo, _⟩ := HX2.out.tbo.row (rowsG_at (f := E3.a) (N := N) (l := l) (h := da) k (by omega))
            have hVe := hV'.symm.trans HV.out
            injection hVe with hVe
            cases hVe
            refine EInt.step2 rfl (.tmp 35) (.tmp 37) rfl (.slice PA (outP E3.a l da k).length pc) (some ⟨g2, 0, none⟩) 1 1 rfl rfl base (outP E3.a l da k).length (icT (outP E3.a l da k)) (icellsC [(k : Int)]) ((outP E3.a l da k).length + 1) (icellsC (outP E3.a l da k ++ [(k : Int)])) rfl (by simp [icT, icellsC]) hPo rfl (fun _ => ⟨_, rfl, src_blk hb2⟩) (by intro u hu; simp [icellsC] at hu; subst hu; rfl) (by omega) (by unfold maxLen; omega) HX2.out.top ?_
            intro A7 c7 w7 ho7 hg7 hw7
            have HX7 := hid (HX2.out.out HEk.out HDA.out (by omega) HV.out hg7 ho7 hw7)
            have hkq : Keep (fun i => (Value.slice PA (outP E3.a l da k).length pc).ownBlock = some i) q2 w7 := (Keep.refl _ _).grown hg7 (fun x e _ => e)
            have hb7 := (HX2.out.tbo.blk.keep hkq (HX2.out.tbo.off _ _ HV.out))
            have c4 : w7.cell? ⟨po, da, none⟩ = some (.slice PA (outP E3.a l da k).length pc) := (hb7.at_ _).trans (by simpa using HV.out)
            have f4 := hb7.free da
            have hhd7 := HX2.out.hdr.keep hkq (fun e => by have := (HX2.out.tbo.blocks HV.out _ e).1; have := HX2.out.gb; omega)
            have hz7 := HZ2.out.keep hkq (fun e => by have := HQLo.out _ e; omega)
            clear ho7 hg7 hw7 hkq hb7 hPo hV'
            refine hK.out _ _ ⟨(hhd7.at_ 1).trans rfl, (hz7.at_ 0).trans rfl⟩ (fun hHeld3 => ?_)
            clear hK K
            try simp only [Act.put, List.setIfInBounds_toArray]
            refine takeO (i := 17) (v := ?_) (by kernel_rfl) (by kernel_rfl) (by kernel_rfl) (fun c a d v w h => by cases d <;> exact h) (oi := ?_) ?_ ?_ (by assumption) ?_
            rotate_left 2
            · (simp only [List.getElem?_toArray, List.getElem?_cons_succ, List.getElem?_cons_zero]; rfl)
            · (refine Or.inl ⟨by rfl, ?_⟩; intro w hSw; (try dsimp only at hSw); go_simp; try with_reducible rfl)
            try simp only [Act.put]
            refine wpAnyH_ready (rs := [18]) (by kernel_rfl) (by simp) ?_
            refine AllReadyH.cons rfl (fun K hK => ?_) AllReadyH.nil
            go_simp
            refine hK.out _ _ ⟨(HX7.out.hdr.at_ 1).trans rfl, ((hz7.keep ((Keep.refl (· = po) w7).put da _) (by have := HX7.out.ob; have := HX7.out.ib; omega)).at_ 0).trans rfl⟩ (fun hHeldZ => ?_)
            clear hK K
            try simp only [Act.put, List.setIfInBounds_toArray, List.set_cons_zero, List.set_cons_succ]
            refine wpAnyH_done (by kernel_rfl) ?_ _
            exact REST A7 c7 g2 _ ⟨_, HX7.out, hz7.keep ((Keep.refl (· = po) w7).put da _) (by have := HX7.out.ob; have := HX7.out.ib; omega)⟩
          · go_simp
            have hb4 := Blk.made wd 3 #[.int .i64 (k : Int)]
            have hk4 : Same wd (wd.alloc (.cells #[.int .i64 (k : Int)] 3)) := (Keep.refl _ _).alloc _
            have HX4 := hid (HXdo.out.more hk4)
            have HZ4 := hid (HZdo.out.keep hk4 (fun f => f))
            obtain ⟨g4, hg4⟩ : ∃ g, g = wd.heap.size := ⟨_, rfl⟩
            rw [← hg4] at hb4 ⊢
            clear hg4 hk4
            generalize (wd.alloc (.cells #[.int .i64 (k : Int)] 3)) = q4 at *
            refine hK.out _ _ ⟨(HX4.out.hdr.at_ 1).trans rfl, (HZ4.out.at_ 0).trans rfl⟩ (fun hHeld4 => ?_)
            clear hK K
            try simp only [Act.put, List.setIfInBounds_toArray, List.set_cons_zero, List.set_cons_succ]
            refine wpAnyH_ready (rs := [13]) (by kernel_rfl) (by simp) ?_
            refine AllReadyH.cons rfl (fun K hK => ?_) AllReadyH.nil
            have e5 : q4.cell? ⟨po, da, none⟩ = some (.slice PA (outP E3.a l da k).length pc) := (HX4.out.tbo.blk.at_ _).trans (by simpa using HV.out)
            go_simp
            clear e5
            refine hK.out _ _ ⟨(HX4.out.hdr.at_ 1).trans rfl, (HZ4.out.at_ 0).trans rfl⟩ (fun hHeld5 => ?_)
            clear hK K
            try simp only [Act.put, List.setIfInBounds_toArray, List.set_cons_zero, List.set_cons_succ]
            refine wpAnyH_ready (rs := [16]) (by kernel_rfl) (by simp) ?_
            refine AllReadyH.cons rfl (fun K hK => ?_) AllReadyH.nil
            obtain ⟨PA', pc', hV', hPo, _⟩ := HX4.out.tbo.row (rowsG_at (f := E3.a) (N := N) (l := l) (h := da) k (by omega))
            have hVe := hV'.symm.trans HV.out
            injection hVe with hVe
            cases hVe
            refine EInt.step2 rfl (.tmp 35) (.tmp 37) rfl (.slice PA (outP E3.a l da k).length pc) (some ⟨g4, 0, none⟩) 1 1 rfl rfl base (outP E3.a l da k).length (icT (outP E3.a l da k)) (icellsC [(k : Int)]) ((outP E3.a l da k).length + 1) (icellsC (outP E3.a l da k ++ [(k : Int)])) rfl (by simp [icT, icellsC]) hPo rfl (fun _ => ⟨_, rfl, src_blk hb4⟩) (by intro u hu; simp [icellsC] at hu; subst hu; rfl) (by omega) (by unfold maxLen; omega) HX4.out.top ?_
            intro A7 c7 w7 ho7 hg7 hw7
            have HX7 := hid (HX4.out.out HEk.out HDA.out (by omega) HV.out hg7 ho7 hw7)
            have hkq : Keep (fun i => (Value.slice PA (outP E3.a l da k).length pc).ownBlock = some i) q4 w7 := (Keep.refl _ _).grown hg7 (fun x e _ => e)
            have hb7 := (HX4.out.tbo.blk.keep hkq (HX4.out.tbo.off _ _ HV.out))
            have c4 : w7.cell? ⟨po, da, none⟩ = some (.slice PA (outP E3.a l da k).length pc) := (hb7.at_ _).trans (by simpa using HV.out)
            have f4 := hb7.free da
            have hhd7 := HX4.out.hdr.keep hkq (fun e => by have := (HX4.out.tbo.blocks HV.out _ e).1; have := HX4.out.gb; omega)
            have hz7 := HZ4.out.keep hkq (fun e => by have := HQLo.out _ e; omega)
            clear ho7 hg7 hw7 hkq hb7 hPo hV'
            refine hK.out _ _ ⟨(hhd7.at_ 1).trans rfl, (hz7.at_ 0).trans rfl⟩ (fun hHeld6 => ?_)
            clear hK K
            try simp only [Act.put, List.setIfInBounds_toArray]
            refine takeO (i := 17) (v := ?_) (by kernel_rfl) (by kernel_rfl) (by kernel_rfl) (fun c a d v w h => by cases d <;> exact h) (oi := ?_) ?_ ?_ (by assumption) ?_
            rotate_left 2
            · (simp only [List.getElem?_toArray, List.getElem?_cons_succ, List.getElem?_cons_zero]; rfl)
            · (refine Or.inl ⟨by rfl, ?_⟩; intro w hSw; (try dsimp only at hSw); go_simp; try with_reducible rfl)
            try simp only [Act.put]
            refine wpAnyH_ready (rs := [18]) (by kernel_rfl) (by simp) ?_
            refine AllReadyH.cons rfl (fun K hK => ?_) AllReadyH.nil
            go_simp
            refine hK.out _ _ ⟨(HX7.out.hdr.at_ 1).trans rfl, ((hz7.keep ((Keep.refl (· = po) w7).put da _) (by have := HX7.out.ob; have := HX7.out.ib; omega)).at_ 0).trans rfl⟩ (fun hHeldZ => ?_)
            clear hK K
            try simp only [Act.put, List.setIfInBounds_toArray, List.set_cons_zero, List.set_cons_succ]
            refine wpAnyH_done (by kernel_rfl) ?_ _
            exact REST A7 c7 g4 _ ⟨_, HX7.out, hz7.keep ((Keep.refl (· = po) w7).put da _) (by have := HX7.out.ob; have := HX7.out.ib; omega)⟩
        case rest =>
          intro A7 c7 g7 v1 hF
          obtain ⟨V5, hx, hz⟩ := hF
          have HX5 := hid hx
          have HZ5 := hid hz
          clear hx hz HXa HZ HXdo HZdo HV HQLo hle fo hi0
          go_upto_region 6 with fail
          obtain ⟨PA, pc, hV, _, _⟩ := HX5.out.tbi.row (rowsG_at (f := E3.b) k (show db < N by omega))
          have HV := hid hV
          have HQLi := hid (fun z hz => HQLi0.out _ _ hV z hz)
          have hle := outP_le E3.b l db k
          have hi0 : (0 : Int) ≤ (db : Int) := Int.natCast_nonneg _
          clear hV
          refine wp_region_held_drew (S := fun W => W.cell? ⟨g, 2, none⟩ = some (.slice (some ⟨pi, 0, none⟩) N N) ∧ W.cell? ⟨q, 1, none⟩ = some (.int .i64 (db : Int))) (by kernel_rfl) ⟨(HX5.out.hdr.at_ 2).trans rfl, (HZ5.out.at_ 1).trans rfl⟩ (fun hHeld => ?_)
          refine takeO (i := 0) (v := ?_) (by kernel_rfl) (by kernel_rfl) (by kernel_rfl) (fun c a d v w h => by cases d <;> exact h) (oi := ?_) ?_ ?_ (by assumption) ?_
          rotate_left 2
          · (simp only [List.getElem?_toArray, List.getElem?_cons_zero]; rfl)
          · (refine Or.inl ⟨by rfl, ?_⟩; intro w hSw; (try dsimp only at hSw); obtain ⟨hS1, hS2⟩ := hSw; go_simp; try with_reducible rfl)
          try simp only [Act.put, List.setIfInBounds_toArray, List.set_cons_zero, List.set_cons_succ]
          refine takeO (i := 1) (v := ?_) (by kernel_rfl) (by kernel_rfl) (by kernel_rfl) (fun c a d v w h => by cases d <;> exact h) (oi := ?_) ?_ ?_ (by assumption) ?_
          rotate_left 2
          · (simp only [List.getElem?_toArray, List.getElem?_cons_succ, List.getElem?_cons_zero]; rfl)
          · (refine Or.inl ⟨by rfl, ?_⟩; intro w hSw; (try dsimp only at hSw); obtain ⟨hS1, hS2⟩ := hSw; go_simp; try with_reducible rfl)
          try simp only [Act.put, List.setIfInBounds_toArray, List.set_cons_zero, List.set_cons_succ]
          refine takeO (i := 2) (v := ?_) (by kernel_rfl) (by kernel_rfl) (by kernel_rfl) (fun c a d v w h => by cases d <;> exact h) (oi := ?_) ?_ ?_ (by assumption) ?_
          rotate_left 2
          · (simp only [List.getElem?_toArray, List.getElem?_cons_succ, List.getElem?_cons_zero]; rfl)
          · (refine Or.inl ⟨by rfl, ?_⟩; intro w hSw; (try dsimp only at hSw); obtain ⟨hS1, hS2⟩ := hSw; go_simp; try with_reducible rfl)
          try simp only [Act.put, List.setIfInBounds_toArray, List.set_cons_zero, List.set_cons_succ]
          refine takeO (i := 3) (v := ?_) (by kernel_rfl) (by kernel_rfl) (by kernel_rfl) (fun c a d v w h => by cases d <;> exact h) (oi := ?_) ?_ ?_ (by assumption) ?_
          rotate_left 2
          · (simp only [List.getElem?_toArray, List.getElem?_cons_succ, List.getElem?_cons_zero]; rfl)
          · (refine Or.inl ⟨by rfl, ?_⟩; intro w hSw; (try dsimp only at hSw); obtain ⟨hS1, hS2⟩ := hSw; go_simp; try with_reducible rfl)
          try simp only [Act.put, List.setIfInBounds_toArray, List.set_cons_zero, List.set_cons_succ]
          refine takeO (i := 4) (v := ?_) (by kernel_rfl) (by kernel_rfl) (by kernel_rfl) (fun c a d v w h => by cases d <;> exact h) (oi := ?_) ?_ ?_ (by assumption) ?_
          rotate_left 2
          · (simp only [List.getElem?_toArray, List.getElem?_cons_succ, List.getElem?_cons_zero]; rfl)
          · (refine Or.inl ⟨by rfl, ?_⟩; intro w hSw; (try dsimp only at hSw); obtain ⟨hS1, hS2⟩ := hSw; go_simp; try with_reducible rfl)
          try simp only [Act.put, List.setIfInBounds_toArray, List.set_cons_zero, List.set_cons_succ]
          refine takeO (i := 5) (v := ?_) (by kernel_rfl) (by kernel_rfl) (by kernel_rfl) (fun c a d v w h => by cases d <;> exact h) (oi := ?_) ?_ ?_ (by assumption) ?_
          rotate_left 2
          · (simp only [List.getElem?_toArray, List.getElem?_cons_succ, List.getElem?_cons_zero]; rfl)
          · (refine Or.inl ⟨by rfl, ?_⟩; intro w hSw; (try dsimp only at hSw); obtain ⟨hS1, hS2⟩ := hSw; go_simp; try with_reducible rfl)
          try simp only [Act.put, List.setIfInBounds_toArray, List.set_cons_zero, List.set_cons_succ]
          refine takeO (i := 6) (v := ?_) (by kernel_rfl) (by kernel_rfl) (by kernel_rfl) (fun c a d v w h => by cases d <;> exact h) (oi := ?_) ?_ ?_ (by assumption) ?_
          rotate_left 2
          · (simp only [List.getElem?_toArray, List.getElem?_cons_succ, List.getElem?_cons_zero]; rfl)
          · (refine Or.inl ⟨by rfl, ?_⟩; intro w hSw; (try dsimp only at hSw); obtain ⟨hS1, hS2⟩ := hSw; go_simp; try with_reducible rfl)
          try simp only [Act.put, List.setIfInBounds_toArray, List.set_cons_zero, List.set_cons_succ]
          refine takeO (i := 7) (v := ?_) (by kernel_rfl) (by kernel_rfl) (by kernel_rfl) (fun c a d v w h => by cases d <;> exact h) (oi := ?_) ?_ ?_ (by assumption) ?_
          rotate_left 2
          · (simp only [List.getElem?_toArray, List.getElem?_cons_succ, List.getElem?_cons_zero]; rfl)
          · (refine Or.inl ⟨by rfl, ?_⟩; intro w hSw; (try dsimp only at hSw); obtain ⟨hS1, hS2⟩ := hSw; go_simp; try with_reducible rfl)
          try simp only [Act.put, List.setIfInBounds_toArray, List.set_cons_zero, List.set_cons_succ]
          refine takeO (i := 8) (v := ?_) (by kernel_rfl) (by kernel_rfl) (by kernel_rfl) (fun c a d v w h => by cases d <;> exact h) (oi := ?_) ?_ ?_ (by assumption) ?_
          rotate_left 2
          · (simp only [List.getElem?_toArray, List.getElem?_cons_succ, List.getElem?_cons_zero]; rfl)
          · (refine Or.inl ⟨by rfl, ?_⟩; intro w hSw; (try dsimp only at hSw); obtain ⟨hS1, hS2⟩ := hSw; go_simp; try with_reducible rfl)
          try simp only [Act.put, List.setIfInBounds_toArray, List.set_cons_zero, List.set_cons_succ]
          refine takeO (i := 9) (v := ?_) (by kernel_rfl) (by kernel_rfl) (by kernel_rfl) (fun c a d v w h => by cases d <;> exact h) (oi := ?_) ?_ ?_ (by assumption) ?_
          rotate_left 2
          · (simp only [List.getElem?_toArray, List.getElem?_cons_succ, List.getElem?_cons_zero]; rfl)
          · (refine Or.inl ⟨by rfl, ?_⟩; intro w hSw; (try dsimp only at hSw); obtain ⟨hS1, hS2⟩ := hSw; go_simp; try with_reducible rfl)
          try simp only [Act.put, List.setIfInBounds_toArray, List.set_cons_zero, List.set_cons_succ]
          refine takeO (i := 10) (v := ?_) (by kernel_rfl) (by kernel_rfl) (by kernel_rfl) (fun c a d v w h => by cases d <;> exact h) (oi := ?_) ?_ ?_ (by assumption) ?_
          rotate_left 2
          · (simp only [List.getElem?_toArray, List.getElem?_cons_succ, List.getElem?_cons_zero]; rfl)
          · (refine Or.inl ⟨by rfl, ?_⟩; intro w hSw; (try dsimp only at hSw); obtain ⟨hS1, hS2⟩ := hSw; go_simp; try with_reducible rfl)
          try simp only [Act.put, List.setIfInBounds_toArray, List.set_cons_zero, List.set_cons_succ]
          refine takeO (i := 11) (v := ?_) (by kernel_rfl) (by kernel_rfl) (by kernel_rfl) (fun c a d v w h => by cases d <;> exact h) (oi := ?_) ?_ ?_ (by assumption) ?_
          rotate_left 2
          · (simp only [List.getElem?_toArray, List.getElem?_cons_succ, List.getElem?_cons_zero]; rfl)
          · (refine Or.inl ⟨by rfl, ?_⟩; intro w hSw; (try dsimp only at hSw); obtain ⟨hS1, hS2⟩ := hSw; go_simp; try with_reducible rfl)
          try simp only [Act.put, List.setIfInBounds_toArray, List.set_cons_zero, List.set_cons_succ]
          refine takeO (i := 12) (v := ?_) (by kernel_rfl) (by kernel_rfl) (by kernel_rfl) (fun c a d v w h => by cases d <;> exact h) (oi := ?_) ?_ ?_ (by assumption) ?_
          rotate_left 2
          · (simp only [List.getElem?_toArray, List.getElem?_cons_succ, List.getElem?_cons_zero]; rfl)
          · (refine Or.inl ⟨by rfl, ?_⟩; intro w hSw; (try dsimp only at hSw); obtain ⟨hS1, hS2⟩ := hSw; go_simp; try with_reducible rfl)
          try simp only [Act.put, List.setIfInBounds_toArray, List.set_cons_zero, List.set_cons_succ]
          refine takeO (i := 14) (v := ?_) (by kernel_rfl) (by kernel_rfl) (by kernel_rfl) (fun c a d v w h => by cases d <;> exact h) (oi := ?_) ?_ ?_ (by assumption) ?_
          rotate_left 2
          · (simp only [List.getElem?_toArray, List.getElem?_cons_succ, List.getElem?_cons_zero]; rfl)
          · (refine Or.inl ⟨by rfl, ?_⟩; intro w hSw; (try dsimp only at hSw); obtain ⟨hS1, hS2⟩ := hSw; go_simp; try with_reducible rfl)
          try simp only [Act.put, List.setIfInBounds_toArray, List.set_cons_zero, List.set_cons_succ]
          have HXdi := hid (HX5.out.more (Keep.refl (fun _ => False) _).drew)
          have HZdi := hid (HZ5.out.keep (Keep.refl (fun _ => False) _).drew (fun f => f))
          clear hHeld
          generalize v1.drew = wd at *
          apply one_restG (F := fun _ _ _ W => ∃ V V2, BG w W g po pi base N (some ⟨b1, o1, none⟩) cE l (k + 1) (k + 1) V V2)
          case main =>
            intro REST
            refine wpAnyH_ready (rs := [13, 15]) (by kernel_rfl) (by simp) ?_
            refine AllReadyH.cons rfl (fun K hK => ?_) (AllReadyH.cons rfl (fun K hK => ?_) AllReadyH.nil)
            · have e7 : wd.cell? ⟨pi, db, none⟩ = some (.slice PA (outP E3.b l db k).length pc) := (HXdi.out.tbi.blk.at_ _).trans (by simpa using HV.out)
              go_simp
              clear e7
              refine hK.out _ _ ⟨(HXdi.out.hdr.at_ 2).trans rfl, (HZdi.out.at_ 1).trans rfl⟩ (fun hHeld7 => ?_)
              clear hK K
              try simp only [Act.put, List.setIfInBounds_toArray, List.set_cons_zero, List.set_cons_succ]
              refine wpAnyH_ready (rs := [15]) (by kernel_rfl) (by simp) ?_
              refine AllReadyH.cons rfl (fun K hK => ?_) AllReadyH.nil
              go_simp
              have hb8 := Blk.made wd 3 #[.int .i64 (k : Int)]
              have hk8 : Same wd (wd.alloc (.cells #[.int .i64 (k : Int)] 3)) := (Keep.refl _ _).alloc _
              have HX8 := hid (HXdi.out.more hk8)
              have HZ8 := hid (HZdi.out.keep hk8 (fun f => f))
              obtain ⟨g8, hg8⟩ : ∃ g, g = wd.heap.size := ⟨_, rfl⟩
              rw [← hg8] at hb8 ⊢
              clear hg8 hk8
              generalize (wd.alloc (.cells #[.int .i64 (k : Int)] 3)) = q8 at *
              refine hK.out _ _ ⟨(HX8.out.hdr.at_ 2).trans rfl, (HZ8.out.at_ 1).trans rfl⟩ (fun hHeld8 => ?_)
              clear hK K
              try simp only [Act.put, List.setIfInBounds_toArray, List.set_cons_zero, List.set_cons_succ]
              refine wpAnyH_ready (rs := [16]) (by kernel_rfl) (by simp) ?_
              refine AllReadyH.cons rfl (fun K hK => ?_) AllReadyH.nil
              obtain ⟨PA', pc', hV', hPo, _⟩ := HX8.out.tbi.row (rowsG_at (f := E3.b) (N := N) (l := l) (h := db) k (by omega))
              have hVe := hV'.symm.trans HV.out
              injection hVe with hVe
              cases hVe
              refine EInt.step2 rfl (.tmp 53) (.tmp 55) rfl (.slice PA (outP E3.b l db k).length pc) (some ⟨g8, 0, none⟩) 1 1 rfl rfl base (outP E3.b l db k).length (icT (outP E3.b l db k)) (icellsC [(k : Int)]) ((outP E3.b l db k).length + 1) (icellsC (outP E3.b l db k ++ [(k : Int)])) rfl (by simp [icT, icellsC]) hPo rfl (fun _ => ⟨_, rfl, src_blk hb8⟩) (by intro u hu; simp [icellsC] at hu; subst hu; rfl) (by omega) (by unfold maxLen; omega) HX8.out.top ?_
              intro A7 c7 w7 ho7 hg7 hw7
              have HX7 := hid (HX8.out.ins HEk.out HDB.out (by omega) HV.out hg7 ho7 hw7)
              have hkq : Keep (fun i => (Value.slice PA (outP E3.b l db k).length pc).ownBlock = some i) q8 w7 := (Keep.refl _ _).grown hg7 (fun x e _ => e)
              have hb7 := (HX8.out.tbi.blk.keep hkq (HX8.out.tbi.off _ _ HV.out))
              have c4 : w7.cell? ⟨pi, db, none⟩ = some (.slice PA (outP E3.b l db k).length pc) := (hb7.at_ _).trans (by simpa using HV.out)
              have f4 := hb7.free db
              have hhd7 := HX8.out.hdr.keep hkq (fun e => by have := (HX8.out.tbi.blocks HV.out _ e).1; have := HX8.out.gb; omega)
              have hz7 := HZ8.out.keep hkq (fun e => by have := HQLi.out _ e; omega)
              clear ho7 hg7 hw7 hkq hb7 hPo hV'
              refine hK.out _ _ ⟨(hhd7.at_ 2).trans rfl, (hz7.at_ 1).trans rfl⟩ (fun hHeld9 => ?_)
              clear hK K
              try simp only [Act.put, List.setIfInBounds_toArray]
              refine takeO (i := 17) (v := ?_) (by kernel_rfl) (by kernel_rfl) (by kernel_rfl) (fun c a d v w h => by cases d <;> exact h) (oi := ?_) ?_ ?_ (by assumption) ?_
              rotate_left 2
              · (simp only [List.getElem?_toArray, List.getElem?_cons_succ, List.getElem?_cons_zero]; rfl)
              · (refine Or.inl ⟨by rfl, ?_⟩; intro w hSw; (try dsimp only at hSw); go_simp; try with_reducible rfl)
              try simp only [Act.put]
              refine wpAnyH_ready (rs := [18]) (by kernel_rfl) (by simp) ?_
              refine AllReadyH.cons rfl (fun K hK => ?_) AllReadyH.nil
              go_simp
              refine hK.out _ _ ⟨(HX7.out.hdr.at_ 2).trans rfl, ((hz7.keep ((Keep.refl (· = pi) w7).put db _) (by have := HX7.out.ob; have := HX7.out.ib; omega)).at_ 1).trans rfl⟩ (fun hHeldZ => ?_)
              clear hK K
              try simp only [Act.put, List.setIfInBounds_toArray, List.set_cons_zero, List.set_cons_succ]
              refine wpAnyH_done (by kernel_rfl) ?_ _
              exact REST A7 c7 g8 _ ⟨_, _, HX7.out⟩
            · go_simp
              have hb10 := Blk.made wd 3 #[.int .i64 (k : Int)]
              have hk10 : Same wd (wd.alloc (.cells #[.int .i64 (k : Int)] 3)) := (Keep.refl _ _).alloc _
              have HX10 := hid (HXdi.out.more hk10)
              have HZ10 := hid (HZdi.out.keep hk10 (fun f => f))
              obtain ⟨g10, hg10⟩ : ∃ g, g = wd.heap.size := ⟨_, rfl⟩
              rw [← hg10] at hb10 ⊢
              clear hg10 hk10
              generalize (wd.alloc (.cells #[.int .i64 (k : Int)] 3)) = q10 at *
              refine hK.out _ _ ⟨(HX10.out.hdr.at_ 2).trans rfl, (HZ10.out.at_ 1).trans rfl⟩ (fun hHeld10 => ?_)
              clear hK K
              try simp only [Act.put, List.setIfInBounds_toArray, List.set_cons_zero, List.set_cons_succ]
              refine wpAnyH_ready (rs := [13]) (by kernel_rfl) (by simp) ?_
              refine AllReadyH.cons rfl (fun K hK => ?_) AllReadyH.nil
              have e11 : q10.cell? ⟨pi, db, none⟩ = some (.slice PA (outP E3.b l db k).length pc) := (HX10.out.tbi.blk.at_ _).trans (by simpa using HV.out)
              go_simp
              clear e11
              refine hK.out _ _ ⟨(HX10.out.hdr.at_ 2).trans rfl, (HZ10.out.at_ 1).trans rfl⟩ (fun hHeld11 => ?_)
              clear hK K
              try simp only [Act.put, List.setIfInBounds_toArray, List.set_cons_zero, List.set_cons_succ]
              refine wpAnyH_ready (rs := [16]) (by kernel_rfl) (by simp) ?_
              refine AllReadyH.cons rfl (fun K hK => ?_) AllReadyH.nil
              obtain ⟨PA', pc', hV', hPo, _⟩ := HX10.out.tbi.row (rowsG_at (f := E3.b) (N := N) (l := l) (h := db) k (by omega))
              have hVe := hV'.symm.trans HV.out
              injection hVe with hVe
              cases hVe
              refine EInt.step2 rfl (.tmp 53) (.tmp 55) rfl (.slice PA (outP E3.b l db k).length pc) (some ⟨g10, 0, none⟩) 1 1 rfl rfl base (outP E3.b l db k).length (icT (outP E3.b l db k)) (icellsC [(k : Int)]) ((outP E3.b l db k).length + 1) (icellsC (outP E3.b l db k ++ [(k : Int)])) rfl (by simp [icT, icellsC]) hPo rfl (fun _ => ⟨_, rfl, src_blk hb10⟩) (by intro u hu; simp [icellsC] at hu; subst hu; rfl) (by omega) (by unfold maxLen; omega) HX10.out.top ?_
              intro A7 c7 w7 ho7 hg7 hw7
              have HX7 := hid (HX10.out.ins HEk.out HDB.out (by omega) HV.out hg7 ho7 hw7)
              have hkq : Keep (fun i => (Value.slice PA (outP E3.b l db k).length pc).ownBlock = some i) q10 w7 := (Keep.refl _ _).grown hg7 (fun x e _ => e)
              have hb7 := (HX10.out.tbi.blk.keep hkq (HX10.out.tbi.off _ _ HV.out))
              have c4 : w7.cell? ⟨pi, db, none⟩ = some (.slice PA (outP E3.b l db k).length pc) := (hb7.at_ _).trans (by simpa using HV.out)
              have f4 := hb7.free db
              have hhd7 := HX10.out.hdr.keep hkq (fun e => by have := (HX10.out.tbi.blocks HV.out _ e).1; have := HX10.out.gb; omega)
              have hz7 := HZ10.out.keep hkq (fun e => by have := HQLi.out _ e; omega)
              clear ho7 hg7 hw7 hkq hb7 hPo hV'
              refine hK.out _ _ ⟨(hhd7.at_ 2).trans rfl, (hz7.at_ 1).trans rfl⟩ (fun hHeld12 => ?_)
              clear hK K
              try simp only [Act.put, List.setIfInBounds_toArray]
              refine takeO (i := 17) (v := ?_) (by kernel_rfl) (by kernel_rfl) (by kernel_rfl) (fun c a d v w h => by cases d <;> exact h) (oi := ?_) ?_ ?_ (by assumption) ?_
              rotate_left 2
              · (simp only [List.getElem?_toArray, List.getElem?_cons_succ, List.getElem?_cons_zero]; rfl)
              · (refine Or.inl ⟨by rfl, ?_⟩; intro w hSw; (try dsimp only at hSw); go_simp; try with_reducible rfl)
              try simp only [Act.put]
              refine wpAnyH_ready (rs := [18]) (by kernel_rfl) (by simp) ?_
              refine AllReadyH.cons rfl (fun K hK => ?_) AllReadyH.nil
              go_simp
              refine hK.out _ _ ⟨(HX7.out.hdr.at_ 2).trans rfl, ((hz7.keep ((Keep.refl (· = pi) w7).put db _) (by have := HX7.out.ob; have := HX7.out.ib; omega)).at_ 1).trans rfl⟩ (fun hHeldZ => ?_)
              clear hK K
              try simp only [Act.put, List.setIfInBounds_toArray, List.set_cons_zero, List.set_cons_succ]
              refine wpAnyH_done (by kernel_rfl) ?_ _
              exact REST A7 c7 g10 _ ⟨_, _, HX7.out⟩
          case rest =>
            intro A8 c8 g8 v2 hF
            have HF := hid hF
            clear hF HX5 HZ5 HXdi HZdi HV HQLi hle hi0
            go_wp2_with fail
            go_round
            case rel => exact ⟨k + 1, by omega, by go_num, HF⟩
            case measure => simp [RowKit.intOf]; omega
      · have hke : k = l.length := by omega
        subst hke
        obtain ⟨Vo, Vi, hb⟩ := HL.out
        have HX := hid hb
        clear hb HL
        go_wp2_with fail
        go_ret
        exact ⟨_, _, _, _, _, rfl, ⟨HX.out.hdr, HE.out.same HX.out.same, HX.out.tbo.rows, HX.out.tbi.rows⟩, HX.out.same⟩
end Go.Proofs.Ytmllpapkgfclkaa

import Derived.Test.YtnejacmmbfeneaaDoorGen2
import Derived.Test.YtnejacmmbfeneaaDoorNsQ
import Derived.Test.YtnejacmmbfeneaaDoorRegU
import Derived.Deep.CutRange
import Derived.ChangeKeysEq
import Derived.Laws.Bits64b
import Derived.Laws.StructEq
namespace Go.Proofs.YtnejacmmbfeneaaDoor
open Go.RowKit

/-! ## Sets of nodes in memory -/
def wcells (ws : List Nat) : List Value := ws.map (fun (x : Nat) => Value.int .u64 (x : Int))
theorem wcells_len (ws : List Nat) : (wcells ws).length = ws.length := by simp [wcells]
theorem wcells_one (ws : List Nat) : ∀ u ∈ wcells ws, u.oneCell' = true := by
  intro u hu
  simp only [wcells, List.mem_map] at hu
  obtain ⟨x, _, rfl⟩ := hu
  rfl
def IsB (w : World) (g : Nat) (ws : List Nat) : Prop := Blk w g 79 (wcells ws).toArray
theorem IsB.word {w : World} {g : Nat} {ws : List Nat} (h : IsB w g ws) {i x : Nat} (hx : ws[i]? = some x) : w.cell? ⟨g, i, none⟩ = some (.int .u64 (x : Int)) := by
  rw [Blk.at_ h i, List.getElem?_toArray, wcells, List.getElem?_map, hx]; rfl
theorem IsB.put {w : World} {g : Nat} {ws : List Nat} (h : IsB w g ws) (i x : Nat) : IsB (w.setCell ⟨g, i, none⟩ (.int .u64 (x : Int))) g (ws.set i x) := by
  have h1 := Blk.put h i (.int .u64 (x : Int))
  rw [IsB, show wcells (ws.set i x) = (wcells ws).set i (.int .u64 (x : Int)) from by simp [wcells, List.map_set]]
  simpa using h1
structure IsSet (w : World) (v : Value) (ws : List Nat) : Prop where
  ok : OkW ws
  mem : (v = .pointer none ∧ ws = zeroW) ∨ ∃ g, v = .pointer (some ⟨g, 0, none⟩) ∧ IsB w g ws ∧ ws ≠ zeroW
theorem IsSet.same {w w' : World} {v : Value} {ws : List Nat} (h : IsSet w v ws) (hk : Same w w') : IsSet w' v ws :=
  ⟨h.ok, h.mem.imp id (fun ⟨g, e, b, n⟩ => ⟨g, e, Blk.keep b hk (fun f => f), n⟩)⟩
theorem IsSet.keep {w w' : World} {S : Nat → Prop} {v : Value} {ws : List Nat} (h : IsSet w v ws) (hk : Keep S w w') (hS : ∀ i, i < w.heap.size → ¬ S i) : IsSet w' v ws :=
  ⟨h.ok, h.mem.imp id (fun ⟨g, e, b, n⟩ => ⟨g, e, Blk.keep b hk (hS g (Blk.lt b)), n⟩)⟩
theorem IsSet.one {w : World} {v : Value} {ws : List Nat} (h : IsSet w v ws) : (#[v] : Array Value).all (·.oneCell') = true := by
  rcases h.mem with ⟨rfl, _⟩ | ⟨g, rfl, _⟩ <;> simp [Value.oneCell']
def SetPost (w : World) (ws : List Nat) (e : Ending) (w' : World) : Prop := ∃ v, e = .returned (.agg #[v]) ∧ IsSet w' v ws ∧ Same w w'

def icells (l : List Int) : List Value := l.map (Value.int .i64)
theorem icells_len (l : List Int) : (icells l).length = l.length := by simp [icells]
theorem icells_snoc (l : List Int) (x : Int) : icells (l ++ [x]) = icells l ++ [.int .i64 x] := by simp [icells]
theorem ints_in {w : World} {Av : Nat → Prop} {A : Option Addr} {n : Nat} {l : List Int} (h : Sl w Av 1 A n (icells l)) {k : Nat} {a : Int} (ha : l[k]? = some a) : ∃ b off, A = some ⟨b, off, none⟩ ∧ b < w.heap.size ∧
    w.cell? ⟨b, off + k, none⟩ = some (.int .i64 a) := by
  have hk := (List.getElem?_eq_some_iff.1 ha).1
  have hl : l.length = n := by have := h.len; simpa [icells] using this
  obtain ⟨b, off, e, hb, _, hr⟩ := h.at_ (by omega)
  exact ⟨b, off, e, hb, hr k _ (by simp [icells, ha])⟩
theorem SetPost.mk {w w1 w' : World} {ws : List Nat} {v : Value} (hs : IsSet w1 v ws) (hk : Same w w1) (hp : Keep (fun i => i = w.heap.size) w1 w') (hv : ∀ g, v = .pointer (some ⟨g, 0, none⟩) → g ≠ w.heap.size) : SetPost w ws (.returned (.agg #[v])) w' := by
  refine ⟨v, rfl, ⟨hs.ok, hs.mem.imp id (fun ⟨g, e, b, n⟩ => ⟨g, e, Blk.keep b hp (hv g e), n⟩)⟩, hk.trans hp (fun i hi e => by have e2 : i = w.heap.size := e; omega)⟩
/-! ### '==' on bitmaps -/
theorem all_words {a b : List Nat} (ha : a.length = 64) (hb : b.length = 64) : (List.range 64).all (fun i => a.getD i 0 == b.getD i 0) = decide (a = b) := by
  rw [Bool.eq_iff_iff, List.all_eq_true, decide_eq_true_eq]
  constructor
  · intro h
    refine List.ext_getElem? fun i => ?_
    by_cases hi : i < 64
    · have h1 := h i (by simp [hi])
      rw [List.getD_eq_getElem?_getD, List.getD_eq_getElem?_getD, List.getElem?_eq_getElem (by omega), List.getElem?_eq_getElem (by omega)] at h1
      rw [List.getElem?_eq_getElem (by omega), List.getElem?_eq_getElem (by omega)]
      simpa using h1
    · rw [List.getElem?_eq_none (by omega), List.getElem?_eq_none (by omega)]
  · rintro rfl i _; simp
theorem eq_items {P : Program} (d : Nat) {e : TypeId} (he : P.underlying e = some (.int .u64)) (a b : List Nat) (ha : a.length = 64) (hb : b.length = 64) : ∀ (is : List Nat) (w : World), (∀ i ∈ is, i < 64) →
    (Op.eqItems (d + 1) e 1 (wcells a).toArray (wcells b).toArray is).run P w = .ok (is.all (fun i => a.getD i 0 == b.getD i 0)) w
  | [], w, _ => by simp [Op.eqItems]
  | i :: is, w, h => by
    have hi := h i (by simp)
    have ga : (wcells a)[i]? = some (.int .u64 ((a.getD i 0 : Nat) : Int)) := by
      rw [wcells, List.getElem?_map, List.getD_eq_getElem?_getD, List.getElem?_eq_getElem (by omega)]; rfl
    have gb : (wcells b)[i]? = some (.int .u64 ((b.getD i 0 : Nat) : Int)) := by
      rw [wcells, List.getElem?_map, List.getD_eq_getElem?_getD, List.getElem?_eq_getElem (by omega)]; rfl
    have pa : (part e (wcells a).toArray (i * 1)).run P w = .ok (.int .u64 ((a.getD i 0 : Nat) : Int)) w := by
      simp [part, isAgg, Sem.run_bind, run_underlying he, ga]
    have pb : (part e (wcells b).toArray (i * 1)).run P w = .ok (.int .u64 ((b.getD i 0 : Nat) : Int)) w := by
      simp [part, isAgg, Sem.run_bind, run_underlying he, gb]
    have hq : ((a.getD i 0 : Int) == (b.getD i 0 : Int)) = (a.getD i 0 == b.getD i 0) := by rw [Bool.eq_iff_iff, beq_iff_eq, beq_iff_eq]; omega
    simp only [Op.eqItems, Sem.run_bind, pa, pb, Result.andThen_ok, run_equalIn_int w d e .u64 .u64 _ _ he, hq]
    rw [List.all_cons]
    cases hx : (a.getD i 0 == b.getD i 0)
    · simp only [Bool.not_false, if_true, Sem.run_pure, Bool.false_and]
    · have := eq_items d he a b ha hb is w (fun j hj => h j (by simp [hj]))
      simp only [Bool.not_true, Bool.false_eq_true, if_false, Bool.true_and]
      exact this
theorem eq_bitmaps (w : World) (a b : List Nat) (ha : a.length = 64) (hb : b.length = 64) : (Op.equalIn 10000 79 (.agg (wcells a).toArray) (.agg (wcells b).toArray)).run Tryd.prog w = .ok (decide (a = b)) w := by
  obtain ⟨i, hi⟩ := Option.isSome_iff_exists.1 (show (Tryd.prog.info? 22).isSome = true from by kernel_rfl)
  rw [run_equalIn_array w 9999 _ _ Tryd.underlying79 hi, show Tryd.prog.cellsOf 22 = 1 from by kernel_rfl, eq_items 9998 Tryd.underlying22 a b ha hb _ _ (fun i hi => by simpa using hi), all_words ha hb]

def z64 : List Value := [.int .u64 0, .int .u64 0, .int .u64 0, .int .u64 0, .int .u64 0, .int .u64 0, .int .u64 0, .int .u64 0, .int .u64 0, .int .u64 0, .int .u64 0, .int .u64 0, .int .u64 0, .int .u64 0, .int .u64 0, .int .u64 0, .int .u64 0, .int .u64 0, .int .u64 0, .int .u64 0, .int .u64 0, .int .u64 0, .int .u64 0, .int .u64 0, .int .u64 0, .int .u64 0, .int .u64 0, .int .u64 0, .int .u64 0, .int .u64 0, .int .u64 0, .int .u64 0, .int .u64 0, .int .u64 0, .int .u64 0, .int .u64 0, .int .u64 0, .int .u64 0, .int .u64 0, .int .u64 0, .int .u64 0, .int .u64 0, .int .u64 0, .int .u64 0, .int .u64 0, .int .u64 0, .int .u64 0, .int .u64 0, .int .u64 0, .int .u64 0, .int .u64 0, .int .u64 0, .int .u64 0, .int .u64 0, .int .u64 0, .int .u64 0, .int .u64 0, .int .u64 0, .int .u64 0, .int .u64 0, .int .u64 0, .int .u64 0, .int .u64 0, .int .u64 0]
theorem z64_eq : wcells zeroW = z64 := rfl
theorem zero_row (w : World) : (w.alloc (.cells #[.int .u64 0, .int .u64 0, .int .u64 0, .int .u64 0, .int .u64 0, .int .u64 0, .int .u64 0, .int .u64 0, .int .u64 0, .int .u64 0, .int .u64 0, .int .u64 0, .int .u64 0, .int .u64 0, .int .u64 0, .int .u64 0, .int .u64 0, .int .u64 0, .int .u64 0, .int .u64 0, .int .u64 0, .int .u64 0, .int .u64 0, .int .u64 0, .int .u64 0, .int .u64 0, .int .u64 0, .int .u64 0, .int .u64 0, .int .u64 0, .int .u64 0, .int .u64 0, .int .u64 0, .int .u64 0, .int .u64 0, .int .u64 0, .int .u64 0, .int .u64 0, .int .u64 0, .int .u64 0, .int .u64 0, .int .u64 0, .int .u64 0, .int .u64 0, .int .u64 0, .int .u64 0, .int .u64 0, .int .u64 0, .int .u64 0, .int .u64 0, .int .u64 0, .int .u64 0, .int .u64 0, .int .u64 0, .int .u64 0, .int .u64 0, .int .u64 0, .int .u64 0, .int .u64 0, .int .u64 0, .int .u64 0, .int .u64 0, .int .u64 0, .int .u64 0] 79)) = w.alloc (.cells (wcells zeroW).toArray 79) := by rw [z64_eq]; rfl
theorem IsB.new (w : World) : IsB (w.alloc (.cells (wcells zeroW).toArray 79)) w.heap.size zeroW := Blk.made w _ _
theorem eql_bm {P : Program} {ops : Array Oper} {rest : List Oper} {o : Oper} {a : Act} {w : World} {Q : Exit → Act → World → Prop} (hg : o.guard = none) (t : TypeId) (x y : Operand) (ho : o.op = .binOp .eql t x y t) (A B : Array Value)
    (hx : a.eval x = .agg A) (hy : a.eval y = .agg B) (r : Bool) (hm : P.eqGuardType P.depth t = false) (h : (Op.equalIn 10000 t (.agg A) (.agg B)).run P w = .ok r w) (hK : wpList P ops Q rest (a.put o.dst (.bool r)) w) : wpList P ops Q (o :: rest) a w := by
  refine wpList_plain hg fun K' hK' => ?_
  unfold Oper.wp
  simp [execOp, ho, hx, hy, run_eqGuard_agg, hm, run_eql_struct, h, Result.andThen]
  exact hK' _ _ hK
theorem guard_bm : Tryd.prog.eqGuardType Tryd.prog.depth 79 = false := by kernel_rfl
theorem zero_lit : (wcells zeroW).toArray = #[.int .u64 0, .int .u64 0, .int .u64 0, .int .u64 0, .int .u64 0, .int .u64 0, .int .u64 0, .int .u64 0, .int .u64 0, .int .u64 0, .int .u64 0, .int .u64 0, .int .u64 0, .int .u64 0, .int .u64 0, .int .u64 0, .int .u64 0, .int .u64 0, .int .u64 0, .int .u64 0, .int .u64 0, .int .u64 0, .int .u64 0, .int .u64 0, .int .u64 0, .int .u64 0, .int .u64 0, .int .u64 0, .int .u64 0, .int .u64 0, .int .u64 0, .int .u64 0, .int .u64 0, .int .u64 0, .int .u64 0, .int .u64 0, .int .u64 0, .int .u64 0, .int .u64 0, .int .u64 0, .int .u64 0, .int .u64 0, .int .u64 0, .int .u64 0, .int .u64 0, .int .u64 0, .int .u64 0, .int .u64 0, .int .u64 0, .int .u64 0, .int .u64 0, .int .u64 0, .int .u64 0, .int .u64 0, .int .u64 0, .int .u64 0, .int .u64 0, .int .u64 0, .int .u64 0, .int .u64 0, .int .u64 0, .int .u64 0, .int .u64 0, .int .u64 0] := by rw [z64_eq]; rfl
set_option maxRecDepth 100000 in
set_option maxHeartbeats 4000000 in
/-- setOf: nil where nothing is in -/
theorem setOf_any (w : World) (g : Nat) (ws : List Nat) (hb : IsB w g ws) (hok : OkW ws) :
    Calls Tryd.prog 32 #[.pointer (some ⟨g, 0, none⟩)] w fun e w' => ∃ v, e = .returned (.agg #[v]) ∧ IsSet w' v ws ∧ Same w w' ∧ ∀ g', v = .pointer (some ⟨g', 0, none⟩) → g' = g := by
  have hk : Same w (w.alloc (.cells #[.pointer none] 42)) := (Keep.refl _ _).alloc _
  have hb1 : IsB (w.alloc (.cells #[.pointer none] 42)) g ws := Blk.keep hb hk (fun f => f)
  have hs1 := Blk.made w 42 #[.pointer none]
  go_enter Tryd.func32, Tryd.ntmps32
  go_upto_region 1 with fail
  generalize hw1 : w.alloc (.cells #[.pointer none] 42) = w1 at *
  have heq := eq_bitmaps w1 ws zeroW hok.len zeroW_ok.len
  rw [zero_lit] at heq
  have HB1 := hid hb1
  have HK := hid hk
  have HE := hid heq
  have HS1 := hid hs1
  have s0 : w1.cell? ⟨w.heap.size, 0, none⟩ = some (.pointer none) := hs1.at_ 0
  have f0 := hs1.free 0
  have l0 := hs1.lt
  have c0 : (w1.cell? ⟨g, 0, none⟩).isSome = true := by
    obtain ⟨x, hx⟩ : ∃ x, ws[0]? = some x := ⟨_, List.getElem?_eq_getElem (by rw [hok.len]; decide)⟩
    rw [hb1.word hx]; rfl
  have hlt : w.heap.size < w1.heap.size := hs1.lt
  clear heq hw1 hb1 hk hs1
  by_cases h0 : ws = zeroW
  · have hd : decide (ws = zeroW) = true := by simp [h0]
    rw [hd] at HE
    have H0 := hid h0
    clear h0 hd
    go_wp2_with (first
      | (refine wpList_load_row rfl _ (.tmp 4) rfl g rfl _ (wcells ws).toArray (0, 0) _ HB1.out Tryd.underlying79 rfl (by rw [List.size_toArray, wcells_len, hok.len]; kernel_rfl) ?_)
      | (refine eql_bm rfl _ (.tmp 5) (.tmp 6) rfl _ _ rfl rfl true guard_bm HE.out ?_))
    refine bodyPost_ret (results_cell_row rfl _ _ _ _ _ _ _ rfl (HS1.out.put 0 (.pointer none)) Tryd.underlying42 rfl (by kernel_rfl)) rfl ?_
    exact ⟨.pointer none, rfl, ⟨hok, .inl ⟨rfl, H0.out⟩⟩, HK.out.trans ((Keep.refl _ w1).put _ _) (fun i hi e => by have e2 : i = w.heap.size := e; omega), fun g' e => by cases e <;> rfl⟩
  · have hd : decide (ws = zeroW) = false := by simp [h0]
    rw [hd] at HE
    have H0 := hid h0
    clear h0 hd
    go_wp2_with (first
      | (refine wpList_load_row rfl _ (.tmp 4) rfl g rfl _ (wcells ws).toArray (0, 0) _ HB1.out Tryd.underlying79 rfl (by rw [List.size_toArray, wcells_len, hok.len]; kernel_rfl) ?_)
      | (refine eql_bm rfl _ (.tmp 5) (.tmp 6) rfl _ _ rfl rfl false guard_bm HE.out ?_))
    refine bodyPost_ret (results_cell_row rfl _ _ _ _ _ _ _ rfl (HS1.out.put 0 (.pointer (some ⟨g, 0, none⟩))) Tryd.underlying42 rfl (by kernel_rfl)) rfl ?_
    have hg : g < w.heap.size := Blk.lt hb
    exact ⟨.pointer (some ⟨g, 0, none⟩), rfl, ⟨hok, .inr ⟨g, rfl, Blk.keep HB1.out ((Keep.refl _ w1).put _ _) (by omega), H0.out⟩⟩, HK.out.trans ((Keep.refl _ w1).put _ _) (fun i hi e => by have e2 : i = w.heap.size := e; omega), fun g' e => by cases e <;> rfl⟩

end Go.Proofs.YtnejacmmbfeneaaDoor

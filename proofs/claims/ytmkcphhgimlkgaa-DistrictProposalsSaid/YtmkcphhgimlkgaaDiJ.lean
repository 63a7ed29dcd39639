import Derived.Test.YtmkcphhgimlkgaaDiI
import Derived.Test.YtmkcphhgimlkgaaGreatD
import Derived.Deep.RegionHeld3
import Derived.Deep.CutRange
namespace Go.Proofs.Ytmkcphhgimlkgaa
open Go.RowKit

/-! ## played -/
def akcells (l : List AK) : List Value := l.flatMap AK.cells
def runD (c : CF) (acts : List AK) (l : List St) : List St := acts.foldl (fun l a => (doD c.cen c.h3 l a.kind a.dst a.cen a.ep a.now).1) l
theorem runD_snoc {c : CF} {acts : List AK} {l : List St} {k : Nat} {a : AK} (h : acts[k]? = some a) : runD c (acts.take (k + 1)) l = (doD c.cen c.h3 (runD c (acts.take k) l) a.kind a.dst a.cen a.ep a.now).1 := by
  rw [runD, runD, take_snoc h, List.foldl_append]; rfl
theorem runD_ok {c : CF} {l : List St} (h : OkL c.cen c.h3 l) : ∀ acts : List AK, OkL c.cen c.h3 (runD c acts l)
  | [] => h
  | a :: r => by
    have := runD_ok (doD_okl h a.kind a.dst a.cen a.ep a.now) r
    exact this
theorem ak_at {w : World} {Av : Nat → Prop} {A : Option Addr} {n : Nat} {l : List AK} (h : Sl w Av 5 A n (akcells l)) {k : Nat} {a : AK} (ha : l[k]? = some a) : ∃ b off, A = some ⟨b, off, none⟩ ∧ b < w.heap.size ∧
    w.cell? ⟨b, off + k * 5, none⟩ = some (.int .i64 a.kind) ∧ w.cell? ⟨b, off + k * 5 + 1, none⟩ = some (.int .i64 a.dst) ∧ w.cell? ⟨b, off + k * 5 + 2, none⟩ = some (.int .i64 a.cen) ∧
    w.cell? ⟨b, off + k * 5 + 3, none⟩ = some (.int .i64 a.ep) ∧ w.cell? ⟨b, off + k * 5 + 4, none⟩ = some (.int .i64 a.now) := by
  have hk := (List.getElem?_eq_some_iff.1 ha).1
  have hl : l.length = n := by
    have := h.len
    rw [show (akcells l).length = l.length * 5 from flat_len AK.cells 5 (fun _ => rfl) l] at this
    omega
  obtain ⟨b, off, e, hb, _, hr⟩ := h.at_ (by omega)
  have g := fun j (hj : j < 5) u (hu : a.cells[j]? = some u) => hr (k * 5 + j) u (by rw [show (akcells l)[k * 5 + j]? = (l[k]?).bind (fun a => a.cells[j]?) from flat_get AK.cells 5 (fun _ => rfl) l k j hj, ha]; exact hu)
  exact ⟨b, off, e, hb, g 0 (by omega) _ rfl, g 1 (by omega) _ rfl, g 2 (by omega) _ rfl, g 3 (by omega) _ rfl, g 4 (by omega) _ rfl⟩
theorem DM.late {w0 w' : World} {mb tb sb lo : Nat} {A : Option Addr} {cp : Nat} {c : CF} {l0 l : List St} (h0 : DM w0 mb tb sb A cp c l0) (hd : Sl w0 (fun i => i = sb ∨ i < lo) 1 A c.dis.length (icellsC c.dis)) (hlo : lo ≤ mb)
    (hk : Keep (fun i => i = sb ∨ i < lo ∨ w0.heap.size ≤ i) w0 w') (ht : IsTable w' tb sb l) (ho : OkL c.cen c.h3 l) : DM w' mb tb sb A cp c l := by
  have h1 := h0.ne.1
  have h2 := h0.top.lt
  exact ⟨h0.top.keep hk (by omega), (hd.fresh.keep hk (fun i _ e => by rcases e with e | e | e; exact .inl (.inl e); exact .inl (.inr e); exact .inr e)).wide (fun i _ e => .inl (.inl e)), ht, ho⟩
/-- a map and the reference's map that hold the same leases -/
structure Pair (w w' : World) (c : CF) (l : List St) (mb tb sb : Nat) (A : Option Addr) (cp : Nat) (X : Option Addr) (cx : Nat) : Prop where
  dm : DM w' mb tb sb A cp c l
  th : Th w' (fun i => i = sb) X l
  mb : w.heap.size ≤ mb
  tb : w.heap.size ≤ tb
  sb : w.heap.size ≤ sb
def PlayPost (w : World) (c : CF) (acts : List AK) (e : Ending) (w' : World) : Prop :=
  (e = .returned (.tuple #[.pointer none, .agg zero16.toArray, .bool true]) ∧ Same w w') ∨
  (vnum c = 0 ∧ acts.length ≤ 60 ∧ c.dis.length ≤ 60 ∧ ∃ mb tb sb A cp X cx, e = .returned (.tuple #[.pointer (some ⟨mb, 0, none⟩), .agg (map16 c X (runD c acts (initL c.cen.toNat c.h3)).length cx).toArray, .bool true]) ∧
    Pair w w' c (runD c acts (initL c.cen.toNat c.h3)) mb tb sb A cp X cx ∧ Same w w')
theorem results_mid {P : Program} {fn : Func} {p q r : Tmp} {ty : TypeId} (h : fn.results = #[.tmp p, .cell q ty, .tmp r]) (tmps : Array Value) (w : World) (g : Nat) (t : TypeId) (cs : Array Value) (fr : Nat × Nat) (d : TypeDesc) (v v2 : Value)
    (hp : tmps.getD p undef = v) (hq : tmps.getD q undef = .pointer (some ⟨g, 0, none⟩)) (hr : tmps.getD r undef = v2) (hg : w.heap[g]? = some (.cells cs t fr))
    (hu : P.underlying ty = some d) (hd : (match d with | .struct _ | .array _ _ => true | _ => false) = true) (hi : (P.info? ty).map (·.size) = some cs.size) :
    (results fn tmps).run P w = .ok (.tuple #[v, .agg cs, v2]) w := by
  have hp' : tmps[p]?.getD undef = v := by simpa using hp
  have hq' : tmps[q]?.getD undef = .pointer (some ⟨g, 0, none⟩) := by simpa using hq
  have hr' : tmps[r]?.getD undef = v2 := by simpa using hr
  simp [results, h, hp', hq', hr', asAddr, run_loadVar_row w g t ty cs fr d hg hu hd hi]
theorem zero16_one : ∀ u ∈ zero16, u.oneCell' = true := by
  intro u hu
  simp only [zero16, List.mem_cons, List.not_mem_nil, or_false] at hu
  rcases hu with rfl | rfl | rfl | rfl | rfl | rfl | rfl | rfl | rfl | rfl | rfl | rfl | rfl | rfl | rfl | rfl <;> rfl
theorem takeL {P : Program} {md : Region.Mode} {ops : Array Oper} {Q : Exit → Act → World → Prop} {S : World → Prop} {i : Nat} {oi : Oper} {fuel : Nat} {listed : Array Bool} {a : Act} {w : World}
    (hs : Region.noSelect ops = true) (hf : Region.free md ops listed i = true) (hr : (Region.ready md ops listed).contains i = true) (hQ : ∀ c a d v w, Q (.panic c) (Act.put a d v) w → Q (.panic c) a w) (hi : ops[i]? = some oi)
    (ty : TypeId) (x : Operand) (hg : oi.guard = none) (ho : oi.op = .load ty x) (g : Nat) (hx : a.eval x = .pointer (some ⟨g, 0, none⟩)) (t : TypeId) (cs : Array Value) (fr : Nat × Nat) (d : TypeDesc) (hh : ∀ W, S W → W.heap[g]? = some (.cells cs t fr))
    (hu : P.underlying ty = some d) (hd : (match d with | .struct _ | .array _ _ => true | _ => false) = true) (hz : (P.info? ty).map (·.size) = some cs.size) (hS : S w)
    (h : wpAnyH P md ops Q S fuel (listed.setIfInBounds i true) (a.put oi.dst (.agg cs)) w) : wpAnyH P md ops Q S (fuel + 1) listed a w :=
  wpAnyH_take hi hs hf hr (fun c a w h => hQ c a _ _ w h) (.inl ⟨by simp [Region.wanted, hg], fun W hW => by
    unfold execOp
    simp only [ho, hx, Instr.loadAt, Instr.sureAddr, Sem.run_bind, Sem.run_pure, Result.andThen_ok, run_loadVar_row W g t ty cs fr d (hh W hW) hu hd hz]⟩) hS h
section
variable {P : Program} {ops : Array Oper} {o : Oper} {a : Act} {w : World} {K : Act → World → Prop} {Q : Exit → Act → World → Prop} {F : Prop}
theorem load_step (hg : o.guard = none) (ty : TypeId) (x : Operand) (ho : o.op = .load ty x) (g : Nat) (hx : a.eval x = .pointer (some ⟨g, 0, none⟩)) (t : TypeId) (cs : Array Value) (fr : Nat × Nat) (d : TypeDesc) (hh : w.heap[g]? = some (.cells cs t fr))
    (hu : P.underlying ty = some d) (hd : (match d with | .struct _ | .array _ _ => true | _ => false) = true) (hi : (P.info? ty).map (·.size) = some cs.size) (hK : K (a.put o.dst (.agg cs)) w) :
    if Region.wanted o (yielded ops a.tmps) = true then Oper.wp P o a w K Q else F := by
  rw [if_pos (by simp [Region.wanted, hg])]
  exact wp_load_row ty x ho g hx t cs fr d hh hu hd hi hK
theorem store_step (hg : o.guard = none) (ty : TypeId) (x y : Operand) (ho : o.op = .store ty x y) (g : Nat) (cells : Array Value) (hx : a.eval x = .pointer (some ⟨g, 0, none⟩)) (hy : a.eval y = .agg cells)
    (t : TypeId) (old : Array Value) (hh : w.heap[g]? = some (.cells old t (0, 0))) (hi : (P.info? ty).map (·.size) = some cells.size) (hold : old.size = cells.size) (h1 : cells.all (·.oneCell') = true)
    (hK : K (a.put o.dst undef) (w.setRow g cells)) :
    if Region.wanted o (yielded ops a.tmps) = true then Oper.wp P o a w K Q else F := by
  rw [if_pos (by simp [Region.wanted, hg])]
  exact wp_store_row ty x y ho g cells hx hy t old hh hi hold h1 hK
end
theorem map16_len (c : CF) (X : Option Addr) (m cx : Nat) : (map16 c X m cx).toArray.size = 16 := rfl
structure BoxC (W : World) (g : Nat) (c : CF) (Z : Option Addr) (m cz : Nat) : Prop where
  c0 : W.cell? ⟨g, 0, none⟩ = some (.int .i64 c.cen)
  c1 : W.cell? ⟨g, 1, none⟩ = some (.slice c.D c.dis.length c.cD)
  c2 : W.cell? ⟨g, 2, none⟩ = some (.slice c.E c.edg.length c.cE)
  c3 : W.cell? ⟨g, 3, none⟩ = some (.slice c.U c.uni.length c.cU)
  c4 : W.cell? ⟨g, 4, none⟩ = some (.slice c.P c.pla.length c.cP)
  c5 : W.cell? ⟨g, 5, none⟩ = some (.int .i64 c.h0)
  c6 : W.cell? ⟨g, 6, none⟩ = some (.int .i64 c.h1)
  c7 : W.cell? ⟨g, 7, none⟩ = some (.int .i64 c.h2)
  c8 : W.cell? ⟨g, 8, none⟩ = some (.int .i64 c.h3)
  c9 : W.cell? ⟨g, 9, none⟩ = some (.int .i64 c.h4)
  c10 : W.cell? ⟨g, 10, none⟩ = some (.int .i64 c.h5)
  c11 : W.cell? ⟨g, 11, none⟩ = some (.int .i64 c.h6)
  c12 : W.cell? ⟨g, 12, none⟩ = some (.int .i64 c.h7)
  c13 : W.cell? ⟨g, 13, none⟩ = some (.int .i64 c.h8)
  c14 : W.cell? ⟨g, 14, none⟩ = some (.int .i64 c.h9)
  c15 : W.cell? ⟨g, 15, none⟩ = some (.slice Z m cz)
theorem boxc {W : World} {g : Nat} {t : TypeId} {c : CF} {Z : Option Addr} {m cz : Nat} (h : Blk W g t (map16 c Z m cz).toArray) : BoxC W g c Z m cz :=
  ⟨h.at_ 0, h.at_ 1, h.at_ 2, h.at_ 3, h.at_ 4, h.at_ 5, h.at_ 6, h.at_ 7, h.at_ 8, h.at_ 9, h.at_ 10, h.at_ 11, h.at_ 12, h.at_ 13, h.at_ 14, h.at_ 15⟩

set_option maxRecDepth 100000 in
set_option maxHeartbeats 16000000 in
theorem played_any (w : World) (c : CF) (hm : CM w c) (hf : Few c) (Z : Option Addr) (cz : Nat) (acts : List AK) (hz : Sl w (fun _ => False) 5 Z acts.length (akcells acts)) (hzn : acts.length ≤ maxLen) :
    Calls Try.prog 10 #[.agg (map16 c Z acts.length cz).toArray] w (PlayPost w c acts) := by
  have hb0 := (Blk.made w 30 (map16 c Z acts.length cz).toArray).alloc (.cells zero16.toArray 36)
  have hz0 := (Blk.made (w.alloc (.cells (map16 c Z acts.length cz).toArray 30)) 36 zero16.toArray)
  rw [World.size_alloc] at hz0
  have hw : Same w ((w.alloc (.cells (map16 c Z acts.length cz).toArray 30)).alloc (.cells zero16.toArray 36)) := ((Keep.refl _ _).alloc _).alloc _
  generalize hw1 : ((w.alloc (.cells (map16 c Z acts.length cz).toArray 30)).alloc (.cells zero16.toArray 36)) = w1 at *
  have HB := hid (fun W (hk : Same w1 W) => boxc (hb0.keep (S := fun _ => False) hk (fun f => f)))
  have HZ := hid (fun W (hk : Same w1 W) => (hz0.keep (S := fun _ => False) hk (fun f => f)))
  have HW := hid hw
  have HGR := hid (great_any w1 c (hm.same hw) hf)
  have HNE := hid (fun W (hk : Same w W) => dnew_any W c (hm.same hk))
  have HRN := hid (fun W (hk : Same w W) => rdnew_any W c (hm.same hk))
  have HAC := hid hz
  have hbx := boxc hb0
  obtain ⟨c0, c1, c2, c3, c4, c5, c6, c7, c8, c9, c10, c11, c12, c13, c14, c15⟩ := hbx
  unfold CF.cells at HGR HNE HRN
  clear hb0 hz0 hw hz hm hf
  unfold maxLen at hzn
  go_enter Try.func10, Try.ntmps10
  go_upto_region 1 with fail
  try simp only [zero16] at hw1
  try rw [hw1]
  go_wp2_with fail
  (with_reducible refine HGR.out.mono ?_)
  rintro e w2 ⟨b, rfl, hb2, hk2⟩
  have HK2 := hid hk2
  clear c0 c1 c2 c3 c4 c5 c6 c7 c8 c9 c10 c11 c12 c13 c14 c15
  obtain ⟨c0, c1, c2, c3, c4, c5, c6, c7, c8, c9, c10, c11, c12, c13, c14, c15⟩ := HB.out w2 hk2
  have HZ2 := hid (HZ.out w2 hk2)
  have HW2 := hid (HW.out.then hk2)
  clear hk2
  by_cases gbig : b = true ∨ 60 < (acts.length : Int)
  · have hbig : (b = true ∧ True) ∨ (b = false ∧ 60 < (acts.length : Int)) := by
      cases b
      · exact .inr ⟨rfl, by simpa using gbig⟩
      · exact .inl ⟨rfl, trivial⟩
    clear gbig hb2
    rcases hbig with ⟨rfl, -⟩ | ⟨rfl, g1⟩
    all_goals
      go_upto_region 2 with fail
      go_wp2_with (refine wpList_store_row rfl _ (.tmp 3) (.tmp 24) rfl (w.heap.size + 1) zero16.toArray rfl rfl _ _ HZ2.out (by kernel_rfl) rfl (one_toArray zero16_one) ?_)
      refine bodyPost_ret (results_mid rfl _ _ _ _ _ _ _ _ _ rfl rfl rfl (HZ2.out.row _) Try.underlying36 rfl (by kernel_rfl)) rfl ?_
      exact .inl ⟨rfl, HW2.out.trans (Keep.row _ _ _) (fun i hi e => by have e2 : i = w.heap.size + 1 := e; omega)⟩
  · have hbf : b = false := by cases b; rfl; exact absurd (.inl rfl) gbig
    subst hbf
    have g60 : ¬ 60 < (acts.length : Int) := fun h => gbig (.inr h)
    have g60' : (acts.length : Int) ≤ 60 := by omega
    have HD60 := hid (hb2 rfl).1
    clear gbig hb2 g60
    have HNW := hid (HNE.out w2 HW2.out)
    unfold DNewPost at HNW
    cases hvn : decide (vnum c = 0)
    · have hv : ¬ vnum c = 0 := by simpa using hvn
      clear hvn
      go_wp2_with fail
      (with_reducible refine HNW.out.mono ?_)
      rintro e w3 (⟨hv2, _⟩ | ⟨_, rfl, hk3⟩)
      · exact absurd hv2 hv
      · have HK3 := hid hk3
        have HRW := hid (HRN.out w3 (HW2.out.then hk3))
        unfold RDNewPost at HRW
        clear c0 c1 c2 c3 c4 c5 c6 c7 c8 c9 c10 c11 c12 c13 c14 c15
        obtain ⟨c0, c1, c2, c3, c4, c5, c6, c7, c8, c9, c10, c11, c12, c13, c14, c15⟩ := HB.out w3 (HK2.out.then hk3)
        clear hk3
        go_wp2_with fail
        (with_reducible refine HRW.out.mono ?_)
        rintro e w4 (⟨hv2, _⟩ | ⟨_, rfl, hk4⟩)
        · exact absurd hv2 hv
        · have HK4 := hid hk4
          have HZ4 := hid (HZ.out w4 ((HK2.out.then HK3.out).then hk4))
          have HW4 := hid ((HW2.out.then HK3.out).then hk4)
          clear c0 c1 c2 c3 c4 c5 c6 c7 c8 c9 c10 c11 c12 c13 c14 c15 hk4 hv
          go_upto_region 5 with (refine wpList_store_row rfl _ (.tmp 7) (.tmp 35) rfl w4.heap.size zero16.toArray rfl rfl _ _ (Blk.made w4 36 zero16.toArray) (by kernel_rfl) rfl (one_toArray zero16_one) ?_)
          have hB5 := (Blk.made w4 36 zero16.toArray).row zero16.toArray
          have hK5 : Same w4 ((w4.alloc (.cells zero16.toArray 36)).setRow w4.heap.size zero16.toArray) := ((Keep.refl _ w4).alloc _).trans (Keep.row _ _ _) (fun i hi e => by have e2 : i = w4.heap.size := e; omega)
          simp only [zero16] at hB5 hK5 ⊢
          generalize ((w4.alloc (.cells #[.int .i64 0, .slice none 0 0, .slice none 0 0, .slice none 0 0, .slice none 0 0, .int .i64 0, .int .i64 0, .int .i64 0, .int .i64 0, .int .i64 0, .int .i64 0, .int .i64 0, .int .i64 0, .int .i64 0, .int .i64 0, .slice none 0 0] 36)).setRow w4.heap.size #[.int .i64 0, .slice none 0 0, .slice none 0 0, .slice none 0 0, .slice none 0 0, .int .i64 0, .int .i64 0, .int .i64 0, .int .i64 0, .int .i64 0, .int .i64 0, .int .i64 0, .int .i64 0, .int .i64 0, .int .i64 0, .slice none 0 0]) = w5 at *
          have HB5 := hid hB5
          have HZ5 := hid (HZ4.out.keep hK5 (fun f => f))
          have HW5 := hid (HW4.out.then hK5)
          have hO := one_toArray zero16_one
          simp only [zero16] at hO
          have HO := hid hO
          clear hB5 hK5 hO
          go_wp2_with fail
          refine wp_region_held_drew (S := fun W => Blk W w4.heap.size 36 #[.int .i64 0, .slice none 0 0, .slice none 0 0, .slice none 0 0, .slice none 0 0, .int .i64 0, .int .i64 0, .int .i64 0, .int .i64 0, .int .i64 0, .int .i64 0, .int .i64 0, .int .i64 0, .int .i64 0, .int .i64 0, .slice none 0 0]) (by kernel_rfl) HB5.out (fun hHeld => ?_)
          refine takeL (i := 0) (by kernel_rfl) (by kernel_rfl) (by kernel_rfl) (fun c a d v w h => by cases d <;> exact h) (oi := ?_) ?_ _ (.tmp 7) ?_ ?_ (w4.heap.size) ?_ 36 (#[.int .i64 0, .slice none 0 0, .slice none 0 0, .slice none 0 0, .slice none 0 0, .int .i64 0, .int .i64 0, .int .i64 0, .int .i64 0, .int .i64 0, .int .i64 0, .int .i64 0, .int .i64 0, .int .i64 0, .int .i64 0, .slice none 0 0]) (0, 0) _ (fun W hW => hW) Try.underlying36 rfl (by kernel_rfl) (by assumption) ?_
          rotate_left 1
          · (simp only [List.getElem?_toArray, List.getElem?_cons_zero]; rfl)
          · rfl
          · rfl
          · rfl
          try simp only [Act.put, List.setIfInBounds_toArray, List.set_cons_zero, List.set_cons_succ]
          refine takeO (i := 1) (v := ?_) (by kernel_rfl) (by kernel_rfl) (by kernel_rfl) (fun c a d v w h => by cases d <;> exact h) (oi := ?_) ?_ ?_ (by assumption) ?_
          rotate_left 2
          · (simp only [List.getElem?_toArray, List.getElem?_cons_succ, List.getElem?_cons_zero]; rfl)
          · (refine Or.inl ⟨by rfl, ?_⟩; intro w hSw; (try dsimp only at hSw); go_simp; try with_reducible rfl)
          try simp only [Act.put, List.setIfInBounds_toArray, List.set_cons_zero, List.set_cons_succ]
          refine wpAnyH_ready (rs := [2]) (by kernel_rfl) (by simp) ?_
          refine AllReadyH.cons rfl (fun K hK => ?_) AllReadyH.nil
          refine store_step rfl _ (.tmp 3) (.tmp 50) rfl (w.heap.size + 1) (#[.int .i64 0, .slice none 0 0, .slice none 0 0, .slice none 0 0, .slice none 0 0, .int .i64 0, .int .i64 0, .int .i64 0, .int .i64 0, .int .i64 0, .int .i64 0, .int .i64 0, .int .i64 0, .int .i64 0, .int .i64 0, .slice none 0 0]) rfl rfl 36 _ HZ5.out (by kernel_rfl) rfl HO.out ?_
          refine hK.out _ _ (HB5.out.drew.keep (Keep.row _ _ _) (fun e => by have e2 : w4.heap.size = w.heap.size + 1 := e; have h1 := HZ4.out.lt; omega)) (fun hHeld1 => ?_)
          clear hK K
          try simp only [Act.put, List.setIfInBounds_toArray]
          refine takeO (i := 3) (v := ?_) (by kernel_rfl) (by kernel_rfl) (by kernel_rfl) (fun c a d v w h => by cases d <;> exact h) (oi := ?_) ?_ ?_ (by assumption) ?_
          rotate_left 2
          · (simp only [List.getElem?_toArray, List.getElem?_cons_succ, List.getElem?_cons_zero]; rfl)
          · (refine Or.inl ⟨by rfl, ?_⟩; intro w hSw; (try dsimp only at hSw); go_simp; try with_reducible rfl)
          try simp only [Act.put]
          refine wpAnyH_done (by kernel_rfl) ?_ _
          go_wp2_with fail
          refine bodyPost_ret (results_mid rfl _ _ _ _ _ _ _ _ _ rfl rfl rfl (HZ5.out.drew.row _) Try.underlying36 rfl (by kernel_rfl)) rfl ?_
          exact .inl ⟨rfl, HW5.out.drew.trans (Keep.row _ _ _) (fun i hi e => by have e2 : i = w.heap.size + 1 := e; omega)⟩
    · have hv : vnum c = 0 := by simpa using hvn
      clear hvn
      have hin := init_ok (n := c.cen.toNat) (dur := c.h3) (by have := (vnum_all hv).1; unfold VB4 at this; omega) (by have := (vnum_all hv).1; unfold VB4 at this; omega) (vnum_dur hv)
      rw [show ((c.cen.toNat : Nat) : Int) = c.cen from by have := (vnum_all hv).1; unfold VB4 at this; omega] at hin
      have HIN := hid hin
      clear hin
      go_wp2_with fail
      (with_reducible refine HNW.out.mono ?_)
      rintro e w3 (⟨_, mb, tb, sb, A, cp, rfl, l1, l2, l3, hd3, hk3, hds3⟩ | ⟨hv2, _⟩)
      rotate_left 1
      · exact absurd hv hv2
      · have HK3 := hid hk3
        have HD3 := hid hd3
        have HDS3 := hid hds3
        have HL9 := hid l1
        clear hds3
        have HRW := hid (HRN.out w3 (HW2.out.then hk3))
        unfold RDNewPost at HRW
        clear c0 c1 c2 c3 c4 c5 c6 c7 c8 c9 c10 c11 c12 c13 c14 c15
        obtain ⟨c0, c1, c2, c3, c4, c5, c6, c7, c8, c9, c10, c11, c12, c13, c14, c15⟩ := HB.out w3 (HK2.out.then hk3)
        clear hk3 hd3
        go_wp2_with fail
        (with_reducible refine HRW.out.mono ?_)
        rintro e w4 (⟨_, X, cx, rfl, ht4, hk4⟩ | ⟨hv2, _⟩)
        rotate_left 1
        · exact absurd hv hv2
        · have HK4 := hid hk4
          have HT4 := hid ht4
          have HZ4 := hid (HZ.out w4 ((HK2.out.then HK3.out).then hk4))
          have HBX := hid (fun W (hk : Same w4 W) => HB.out W (((HK2.out.then HK3.out).then hk4).then hk))
          have HW4 := hid ((HW2.out.then HK3.out).then hk4)
          have HVN := hid hv
          have HL := hid (show w.heap.size ≤ mb ∧ w.heap.size ≤ tb ∧ w.heap.size ≤ sb from ⟨Nat.le_trans HW2.out.size l1, Nat.le_trans HW2.out.size l2, Nat.le_trans HW2.out.size l3⟩)
          have HL2 := hid (show w.heap.size + 1 < mb ∧ w.heap.size + 1 < tb ∧ w.heap.size + 1 < sb from by have := HZ2.out.lt; omega)
          have HL4 := hid (show mb < w4.heap.size ∧ tb < w4.heap.size ∧ sb < w4.heap.size from ⟨(HD3.out.same hk4).top.lt, (HD3.out.same hk4).tab.top.lt, (HD3.out.same hk4).tab.row.lt⟩)
          clear c0 c1 c2 c3 c4 c5 c6 c7 c8 c9 c10 c11 c12 c13 c14 c15 hk4 hv ht4 l1 l2 l3
          go_upto_region 5 with (refine wpList_store_row rfl _ (.tmp 7) (.tmp 35) rfl w4.heap.size (map16 c X (initL c.cen.toNat c.h3).length cx).toArray rfl rfl _ _ (Blk.made w4 36 zero16.toArray) (by kernel_rfl) rfl (one_toArray (map16_one _ _ _ _)) ?_)
          have hB5 := (Blk.made w4 36 zero16.toArray).row (map16 c X (initL c.cen.toNat c.h3).length cx).toArray
          have hK5 : Same w4 ((w4.alloc (.cells zero16.toArray 36)).setRow w4.heap.size (map16 c X (initL c.cen.toNat c.h3).length cx).toArray) := ((Keep.refl _ w4).alloc _).trans (Keep.row _ _ _) (fun i hi e => by have e2 : i = w4.heap.size := e; omega)
          simp only [zero16] at hB5 hK5 ⊢
          generalize ((w4.alloc (.cells #[.int .i64 0, .slice none 0 0, .slice none 0 0, .slice none 0 0, .slice none 0 0, .int .i64 0, .int .i64 0, .int .i64 0, .int .i64 0, .int .i64 0, .int .i64 0, .int .i64 0, .int .i64 0, .int .i64 0, .int .i64 0, .slice none 0 0] 36)).setRow w4.heap.size (map16 c X (initL c.cen.toNat c.h3).length cx).toArray) = w5 at *
          have HB5 := hid hB5
          have HZ5 := hid (HZ4.out.keep hK5 (fun f => f))
          have HBX5 := hid (fun W (hk : Same w5 W) => HBX.out W (hK5.then hk))
          have HW5 := hid (HW4.out.then hK5)
          have HK35 := hid (HK4.out.then hK5)
          have hd5 := (HD3.out.same HK4.out).same hK5
          have HD5 := hid hd5
          have HT5X := hid ((HT4.out.fresh.same hK5).wide (Av' := fun i => i = sb ∨ i = w4.heap.size ∨ i = w.heap.size + 1) (fun i _ e => by have h1 := HD3.out.tab.row.lt; have h2 := HZ2.out.lt; have h3 := HK3.out.size; rcases e with e | e | e; exact .inl (show i < w3.heap.size by omega); exact .inr (show w4.heap.size ≤ i by omega); exact .inl (show i < w3.heap.size by omega)))
          have HT5 := hid ((HT4.out.same hK5).wide (Av' := (· = sb)) (fun i _ e => by have e2 : i = sb := e; have h1 := HD3.out.tab.row.lt; show i < w3.heap.size; omega))
          clear hB5 hK5 hd5
          obtain ⟨c0, c1, c2, c3, c4, c5, c6, c7, c8, c9, c10, c11, c12, c13, c14, c15⟩ := HBX5.out w5 (Keep.refl _ _)
          go_wp2_with fail
          have hT6 : Th w5 (fun i => i = sb ∨ i = w4.heap.size ∨ i = w.heap.size + 1) X (initL c.cen.toNat c.h3) := HT5X.out
          have HT6 := hid hT6
          clear hT6 HT5
          clear c0 c1 c2 c3 c4 c5 c6 c7 c8 c9 c10 c11 c12 c13 c14 c15
          have hsb4 : sb < w4.heap.size := (HD3.out.same HK4.out).tab.row.lt
          go_loopw [9, 54] (fun ok i wr => ∃ (k : Nat) (X : Option Addr) (cx : Nat), k ≤ acts.length ∧ i = .int .i64 k ∧ ok = .bool true ∧ Hid (DM wr mb tb sb A cp c (runD c (acts.take k) (initL c.cen.toNat c.h3)) ∧ Th wr (fun i => i = sb ∨ i = w4.heap.size ∨ i = w.heap.size + 1) X (runD c (acts.take k) (initL c.cen.toNat c.h3)) ∧ Blk wr w4.heap.size 36 (map16 c X (runD c (acts.take k) (initL c.cen.toNat c.h3)).length cx).toArray ∧ Keep (fun i => i = sb ∨ i = w4.heap.size) w5 wr)) (fun _ i _ => acts.length - (RowKit.intOf i).toNat)
          case atStart => exact ⟨0, X, cx, by omega, rfl, rfl, hid ⟨HD5.out, HT6.out, HB5.out, Keep.refl _ _⟩⟩
          case round =>
            obtain ⟨k, X1, cx1, hk, rfl, rfl, HI⟩ := hrel
            by_cases hlt : k < acts.length
            · obtain ⟨a, ha⟩ := get_some hlt
              have hk1 : (k : Int) < (acts.length : Int) := by omega
              obtain ⟨b1, o1, he1, hb1, p0, p1, p2, p3, p4⟩ := ak_at HAC.out ha
              subst he1
              have hKw : Keep (fun i => i = sb ∨ i = w4.heap.size) w5 wr := HI.out.2.2.2
              have hne1 : ¬ (b1 = sb ∨ b1 = w4.heap.size) := by have h1 := HL.out.2.2; have h2 := HW4.out.size; omega
              have hlt1 : b1 < w5.heap.size := Nat.lt_of_lt_of_le hb1 HW5.out.size
              have p0' := (hKw.cell (p := ⟨b1, o1 + k * 5, none⟩) hlt1 hne1).trans ((HW5.out.cell (p := ⟨b1, o1 + k * 5, none⟩) hb1 (fun f => f)).trans p0)
              have p1' := (hKw.cell (p := ⟨b1, o1 + k * 5 + 1, none⟩) hlt1 hne1).trans ((HW5.out.cell (p := ⟨b1, o1 + k * 5 + 1, none⟩) hb1 (fun f => f)).trans p1)
              have p2' := (hKw.cell (p := ⟨b1, o1 + k * 5 + 2, none⟩) hlt1 hne1).trans ((HW5.out.cell (p := ⟨b1, o1 + k * 5 + 2, none⟩) hb1 (fun f => f)).trans p2)
              have p3' := (hKw.cell (p := ⟨b1, o1 + k * 5 + 3, none⟩) hlt1 hne1).trans ((HW5.out.cell (p := ⟨b1, o1 + k * 5 + 3, none⟩) hb1 (fun f => f)).trans p3)
              have p4' := (hKw.cell (p := ⟨b1, o1 + k * 5 + 4, none⟩) hlt1 hne1).trans ((HW5.out.cell (p := ⟨b1, o1 + k * 5 + 4, none⟩) hb1 (fun f => f)).trans p4)
              have HSN := hid (runD_snoc (c := c) (l := initL c.cen.toNat c.h3) ha)
              clear hKw hne1 hlt1 p0 p1 p2 p3 p4 ha
              obtain ⟨kd, ds, ce, ep, now⟩ := a
              simp only at p0' p1' p2' p3' p4' HSN
              have HCM := hid (fun W => command_any W ⟨kd, ds, ce, ep, now⟩)
              have HAP := hid (fun W h => apply_any W mb tb sb A cp c (runD c (acts.take k) (initL c.cen.toNat c.h3)) h kd ds ce ep now)
              have HDO := hid (fun W Av hAv X cx hT hok => do_any W Av hAv c X cx (runD c (acts.take k) (initL c.cen.toNat c.h3)) hT hok kd ds ce ep now)
              simp only [AK.cells] at HCM
              unfold ApPost at HAP
              unfold DoPost at HDO
              generalize hLk : runD c (acts.take k) (initL c.cen.toNat c.h3) = Lk at *
              generalize hRk : doD c.cen c.h3 Lk kd ds ce ep now = Rk at *
              clear hLk hRk
              go_upto_region 13 with fail
              have hba := Blk.made wr 60 #[.int .i64 kd, .int .i64 ds, .int .i64 ce, .int .i64 ep, .int .i64 now]
              have hka : Same wr (wr.alloc (.cells #[.int .i64 kd, .int .i64 ds, .int .i64 ce, .int .i64 ep, .int .i64 now] 60)) := (Keep.refl _ _).alloc _
              clear p0' p1' p2' p3' p4'
              generalize (wr.alloc (.cells #[.int .i64 kd, .int .i64 ds, .int .i64 ce, .int .i64 ep, .int .i64 now] 60)) = wa at *
              have HBA := hid hba
              have HKA := hid hka
              have q4 : wa.cell? ⟨wr.heap.size, 4, none⟩ = some (.int .i64 now) := hba.at_ 4
              clear hba hka
              refine wp_region_held_drew (S := fun W => Blk W wr.heap.size 60 #[.int .i64 kd, .int .i64 ds, .int .i64 ce, .int .i64 ep, .int .i64 now] ∧ W.cell? ⟨wr.heap.size, 4, none⟩ = some (.int .i64 now)) (by kernel_rfl) ⟨HBA.out, q4⟩ (fun hHeld => ?_)
              refine takeO (i := 0) (v := ?_) (by kernel_rfl) (by kernel_rfl) (by kernel_rfl) (fun c a d v w h => by cases d <;> exact h) (oi := ?_) ?_ ?_ (by assumption) ?_
              rotate_left 2
              · (simp only [List.getElem?_toArray, List.getElem?_cons_zero]; rfl)
              · (refine Or.inl ⟨by rfl, ?_⟩; intro w hSw; (try dsimp only at hSw); go_simp; try with_reducible rfl)
              try simp only [Act.put, List.setIfInBounds_toArray, List.set_cons_zero, List.set_cons_succ]
              refine takeL (i := 1) (by kernel_rfl) (by kernel_rfl) (by kernel_rfl) (fun c a d v w h => by cases d <;> exact h) (oi := ?_) ?_ _ (.tmp 11) ?_ ?_ (wr.heap.size) ?_ 60 (#[.int .i64 kd, .int .i64 ds, .int .i64 ce, .int .i64 ep, .int .i64 now]) (0, 0) _ (fun W hW => hW.1) Try.underlying60 rfl (by kernel_rfl) (by assumption) ?_
              rotate_left 1
              · (simp only [List.getElem?_toArray, List.getElem?_cons_succ, List.getElem?_cons_zero]; rfl)
              · rfl
              · rfl
              · rfl
              try simp only [Act.put, List.setIfInBounds_toArray, List.set_cons_zero, List.set_cons_succ]
              refine takeO (i := 3) (v := ?_) (by kernel_rfl) (by kernel_rfl) (by kernel_rfl) (fun c a d v w h => by cases d <;> exact h) (oi := ?_) ?_ ?_ (by assumption) ?_
              rotate_left 2
              · (simp only [List.getElem?_toArray, List.getElem?_cons_succ, List.getElem?_cons_zero]; rfl)
              · (refine Or.inl ⟨by rfl, ?_⟩; intro w hSw; (try dsimp only at hSw); go_simp; try with_reducible rfl)
              try simp only [Act.put, List.setIfInBounds_toArray, List.set_cons_zero, List.set_cons_succ]
              refine takeO (i := 4) (v := ?_) (by kernel_rfl) (by kernel_rfl) (by kernel_rfl) (fun c a d v w h => by cases d <;> exact h) (oi := ?_) ?_ ?_ (by assumption) ?_
              rotate_left 2
              · (simp only [List.getElem?_toArray, List.getElem?_cons_succ, List.getElem?_cons_zero]; rfl)
              · (refine Or.inl ⟨by rfl, ?_⟩; intro w hSw; (try dsimp only at hSw); go_simp; try with_reducible rfl)
              try simp only [Act.put, List.setIfInBounds_toArray, List.set_cons_zero, List.set_cons_succ]
              refine wpAnyH_ready (rs := [2]) (by kernel_rfl) (by simp) ?_
              refine AllReadyH.cons rfl (fun K hK => ?_) AllReadyH.nil
              go_simp
              refine (HCM.out _).mono ?_
              rintro e w6 ⟨rfl, hk6⟩
              have hk6' : Same wa w6 := (Keep.refl _ _).drew.then hk6
              have HK6 := hid hk6'
              have hb6 := HBA.out.keep hk6' (fun f => f)
              have HB6 := hid hb6
              have HD6 := hid ((HI.out.1.same HKA.out).same hk6')
              clear hk6 hk6'
              refine hK.out _ _ ⟨hb6, hb6.at_ 4⟩ (fun hHeld1 => ?_)
              clear hK K
              try simp only [Act.put, List.setIfInBounds_toArray, List.set_cons_zero, List.set_cons_succ]
              refine wpAnyH_ready (rs := [5]) (by kernel_rfl) (by simp) ?_
              refine AllReadyH.cons rfl (fun K hK => ?_) AllReadyH.nil
              go_simp
              refine (HAP.out _ HD6.out).mono ?_
              rintro e w7 ⟨rfl, hd7, hk7⟩
              have HD7 := hid hd7
              have HK7 := hid hk7
              have hb7 := HB6.out.keep hk7 (by have h1 := HI.out.1.tab.row.lt; omega)
              have HB7 := hid hb7
              clear hd7 hk7 hb6
              refine hK.out _ _ ⟨hb7, hb7.at_ 4⟩ (fun hHeld2 => ?_)
              clear hK K
              try simp only [Act.put, List.setIfInBounds_toArray, List.set_cons_zero, List.set_cons_succ]
              refine takeO (i := 6) (v := ?_) (by kernel_rfl) (by kernel_rfl) (by kernel_rfl) (fun c a d v w h => by cases d <;> exact h) (oi := ?_) ?_ ?_ (by assumption) ?_
              rotate_left 2
              · (simp only [List.getElem?_toArray, List.getElem?_cons_succ, List.getElem?_cons_zero]; rfl)
              · (refine Or.inl ⟨by rfl, ?_⟩; intro w hSw; (try dsimp only at hSw); go_simp; try with_reducible rfl)
              try simp only [Act.put, List.setIfInBounds_toArray, List.set_cons_zero, List.set_cons_succ]
              refine wpAnyH_done (by kernel_rfl) ?_ _
              have q4' : w7.cell? ⟨wr.heap.size, 4, none⟩ = some (.int .i64 now) := HB7.out.at_ 4
              have hK7 : Keep (fun i => i = sb) wr w7 := ((HKA.out.then HK6.out).wide (fun _ _ f => f.elim)).trans HK7.out (fun _ _ e => e)
              have HK7r := hid hK7
              have hlt7 : w4.heap.size < wr.heap.size := HI.out.2.2.1.lt
              have hlts : sb < wr.heap.size := HI.out.1.tab.row.lt
              have HX7 := hid (HI.out.2.2.1.keep hK7 (by omega))
              have HT7 := hid (HI.out.2.1.keep hK7 (fun i _ e => .inl e))
              have hs7 : wr.heap.size ≤ w7.heap.size := hK7.size
              have HOK := hid HI.out.1.ok
              have HDW := hid (fun W (hk : Same w7 W) => HDO.out W (fun i => (i = sb ∨ i = w4.heap.size ∨ i = w.heap.size + 1) ∨ (w7.heap.size ≤ i ∧ i < W.heap.size)) (fun i h => by have h1 := hk.size; have h2 := HZ5.out.lt; have h3 := HI.out.2.2.2.size; omega) X1 cx1
                ((HT7.out.fresh.same hk).wide (fun i _ h => h.imp id And.left)) HOK.out)
              clear hK7 q4
              go_upto_region 14 with fail
              go_cut [13, 14] from 64 to 72 (fun u13 u14 w' => ∃ (a : Nat) (X9 : Option Addr) (cx9 : Nat), u13 = .pointer (some ⟨a, 0, none⟩) ∧ u14 = .int .i64 Rk.2 ∧ Hid (wr.heap.size ≤ a ∧ Blk w' a 36 (map16 c X9 Rk.1.length cx9).toArray ∧ Th w' (fun i => i = sb ∨ i = w4.heap.size ∨ i = w.heap.size + 1) X9 Rk.1 ∧ Same w7 w'))
              case first =>
                refine wp_region_held_drew (S := fun W => (Blk W w4.heap.size 36 (map16 c X1 Lk.length cx1).toArray ∧ Blk W wr.heap.size 60 #[.int .i64 kd, .int .i64 ds, .int .i64 ce, .int .i64 ep, .int .i64 now]) ∧ W.cell? ⟨wr.heap.size, 4, none⟩ = some (.int .i64 now)) (by kernel_rfl) ⟨⟨HX7.out, HB7.out⟩, q4'⟩ (fun hHeld => ?_)
                refine takeL (i := 0) (by kernel_rfl) (by kernel_rfl) (by kernel_rfl) (fun c a d v w h => by cases d <;> exact h) (oi := ?_) ?_ _ (.tmp 7) ?_ ?_ (w4.heap.size) ?_ 36 ((map16 c X1 Lk.length cx1).toArray) (0, 0) _ (fun W hW => hW.1.1) Try.underlying36 rfl (by kernel_rfl) (by assumption) ?_
                rotate_left 1
                · (simp only [List.getElem?_toArray, List.getElem?_cons_zero]; rfl)
                · rfl
                · rfl
                · rfl
                try simp only [Act.put, List.setIfInBounds_toArray, List.set_cons_zero, List.set_cons_succ]
                refine takeL (i := 1) (by kernel_rfl) (by kernel_rfl) (by kernel_rfl) (fun c a d v w h => by cases d <;> exact h) (oi := ?_) ?_ _ (.tmp 11) ?_ ?_ (wr.heap.size) ?_ 60 (#[.int .i64 kd, .int .i64 ds, .int .i64 ce, .int .i64 ep, .int .i64 now]) (0, 0) _ (fun W hW => hW.1.2) Try.underlying60 rfl (by kernel_rfl) (by assumption) ?_
                rotate_left 1
                · (simp only [List.getElem?_toArray, List.getElem?_cons_succ, List.getElem?_cons_zero]; rfl)
                · rfl
                · rfl
                · rfl
                try simp only [Act.put, List.setIfInBounds_toArray, List.set_cons_zero, List.set_cons_succ]
                refine takeO (i := 3) (v := ?_) (by kernel_rfl) (by kernel_rfl) (by kernel_rfl) (fun c a d v w h => by cases d <;> exact h) (oi := ?_) ?_ ?_ (by assumption) ?_
                rotate_left 2
                · (simp only [List.getElem?_toArray, List.getElem?_cons_succ, List.getElem?_cons_zero]; rfl)
                · (refine Or.inl ⟨by rfl, ?_⟩; intro w hSw; (try dsimp only at hSw); go_simp; try with_reducible rfl)
                try simp only [Act.put, List.setIfInBounds_toArray, List.set_cons_zero, List.set_cons_succ]
                refine takeO (i := 4) (v := ?_) (by kernel_rfl) (by kernel_rfl) (by kernel_rfl) (fun c a d v w h => by cases d <;> exact h) (oi := ?_) ?_ ?_ (by assumption) ?_
                rotate_left 2
                · (simp only [List.getElem?_toArray, List.getElem?_cons_succ, List.getElem?_cons_zero]; rfl)
                · (refine Or.inl ⟨by rfl, ?_⟩; intro w hSw; (try dsimp only at hSw); go_simp; try with_reducible rfl)
                try simp only [Act.put, List.setIfInBounds_toArray, List.set_cons_zero, List.set_cons_succ]
                refine wpAnyH_ready (rs := [2, 9]) (by kernel_rfl) (by simp) ?_
                refine AllReadyH.cons rfl (fun K hK => ?_) (AllReadyH.cons rfl (fun K hK => ?_) AllReadyH.nil)
                · go_simp
                  refine (HCM.out _).mono ?_
                  rintro e w8a ⟨rfl, hk8⟩
                  have hkA1 : Same w7 w8a := ((Keep.refl (fun _ => False) w7).drew).then hk8
                  have HKA1 := hid hkA1
                  clear hk8
                  refine hK.out _ _ ⟨⟨HX7.out.keep hkA1 (fun f => f), HB7.out.keep hkA1 (fun f => f)⟩, (HB7.out.keep hkA1 (fun f => f)).at_ 4⟩ (fun hHeldA1 => ?_)
                  clear hK K hkA1
                  try simp only [Act.put, List.setIfInBounds_toArray, List.set_cons_zero, List.set_cons_succ]
                  refine wpAnyH_ready (rs := [5, 9]) (by kernel_rfl) (by simp) ?_
                  refine AllReadyH.cons rfl (fun K hK => ?_) (AllReadyH.cons rfl (fun K hK => ?_) AllReadyH.nil)
                  · go_simp
                    refine (HDW.out _ (HKA1.out)).mono ?_
                    rintro e w9 ⟨X9, cx9, rfl, ht9, hk9⟩
                    have HT9 := hid ht9
                    have HK9 := hid hk9
                    have hkB2 : Same w7 w9 := (HKA1.out).then hk9
                    have HKB2 := hid hkB2
                    clear hk9 ht9
                    refine hK.out _ _ ⟨⟨HX7.out.keep hkB2 (fun f => f), HB7.out.keep hkB2 (fun f => f)⟩, (HB7.out.keep hkB2 (fun f => f)).at_ 4⟩ (fun hHeldB2 => ?_)
                    clear hK K hkB2
                    try simp only [Act.put, List.setIfInBounds_toArray, List.set_cons_zero, List.set_cons_succ]
                    refine takeO (i := 6) (v := ?_) (by kernel_rfl) (by kernel_rfl) (by kernel_rfl) (fun c a d v w h => by cases d <;> exact h) (oi := ?_) ?_ ?_ (by assumption) ?_
                    rotate_left 2
                    · (simp only [List.getElem?_toArray, List.getElem?_cons_succ, List.getElem?_cons_zero]; rfl)
                    · (refine Or.inl ⟨by rfl, ?_⟩; intro w hSw; (try dsimp only at hSw); go_simp; try with_reducible rfl)
                    try simp only [Act.put, List.setIfInBounds_toArray, List.set_cons_zero, List.set_cons_succ]
                    refine takeO (i := 7) (v := ?_) (by kernel_rfl) (by kernel_rfl) (by kernel_rfl) (fun c a d v w h => by cases d <;> exact h) (oi := ?_) ?_ ?_ (by assumption) ?_
                    rotate_left 2
                    · (simp only [List.getElem?_toArray, List.getElem?_cons_succ, List.getElem?_cons_zero]; rfl)
                    · (refine Or.inl ⟨by rfl, ?_⟩; intro w hSw; (try dsimp only at hSw); go_simp; try with_reducible rfl)
                    try simp only [Act.put, List.setIfInBounds_toArray, List.set_cons_zero, List.set_cons_succ]
                    refine takeO (i := 8) (v := ?_) (by kernel_rfl) (by kernel_rfl) (by kernel_rfl) (fun c a d v w h => by cases d <;> exact h) (oi := ?_) ?_ ?_ (by assumption) ?_
                    rotate_left 2
                    · (simp only [List.getElem?_toArray, List.getElem?_cons_succ, List.getElem?_cons_zero]; rfl)
                    · (refine Or.inl ⟨by rfl, ?_⟩; intro w hSw; (try dsimp only at hSw); go_simp; try with_reducible rfl)
                    try simp only [Act.put, List.setIfInBounds_toArray, List.set_cons_zero, List.set_cons_succ]
                    refine wpAnyH_ready (rs := [9]) (by kernel_rfl) (by simp) ?_
                    refine AllReadyH.cons rfl (fun K hK => ?_) AllReadyH.nil
                    go_simp
                    have hbn := Blk.made w9 36 #[.int .i64 0, .slice none 0 0, .slice none 0 0, .slice none 0 0, .slice none 0 0, .int .i64 0, .int .i64 0, .int .i64 0, .int .i64 0, .int .i64 0, .int .i64 0, .int .i64 0, .int .i64 0, .int .i64 0, .int .i64 0, .slice none 0 0]
                    have hkn : Same w9 (w9.alloc (.cells #[.int .i64 0, .slice none 0 0, .slice none 0 0, .slice none 0 0, .slice none 0 0, .int .i64 0, .int .i64 0, .int .i64 0, .int .i64 0, .int .i64 0, .int .i64 0, .int .i64 0, .int .i64 0, .int .i64 0, .int .i64 0, .slice none 0 0] 36)) := (Keep.refl _ _).alloc _
                    have hle3 : w7.heap.size ≤ w9.heap.size := (HKB2.out).size
                    have hkC3 : Same w7 (w9.alloc (.cells #[.int .i64 0, .slice none 0 0, .slice none 0 0, .slice none 0 0, .slice none 0 0, .int .i64 0, .int .i64 0, .int .i64 0, .int .i64 0, .int .i64 0, .int .i64 0, .int .i64 0, .int .i64 0, .int .i64 0, .int .i64 0, .slice none 0 0] 36)) := (HKB2.out).then hkn
                    have HKC3 := hid hkC3
                    have HBN := hid hbn
                    have HLE := hid hle3
                    have hltn := hbn.lt
                    have HLTN := hid hltn
                    clear hbn hltn
                    refine hK.out _ _ ⟨⟨HX7.out.keep hkC3 (fun f => f), HB7.out.keep hkC3 (fun f => f)⟩, (HB7.out.keep hkC3 (fun f => f)).at_ 4⟩ (fun hHeldC3 => ?_)
                    clear hK K hkC3
                    try simp only [Act.put, List.setIfInBounds_toArray, List.set_cons_zero, List.set_cons_succ]
                    refine wpAnyH_ready (rs := [10]) (by kernel_rfl) (by simp) ?_
                    refine AllReadyH.cons rfl (fun K hK => ?_) AllReadyH.nil
                    have hba4 := HBN.out
                    refine store_step rfl _ (.tmp 13) (.tmp 71) rfl (w9.heap.size) (map16 c X9 Rk.1.length cx9).toArray rfl rfl 36 _ hba4 (by kernel_rfl) rfl (one_toArray (map16_one _ _ _ _)) ?_
                    have hkF4 : Same w7 (((w9.alloc (.cells #[.int .i64 0, .slice none 0 0, .slice none 0 0, .slice none 0 0, .slice none 0 0, .int .i64 0, .int .i64 0, .int .i64 0, .int .i64 0, .int .i64 0, .int .i64 0, .int .i64 0, .int .i64 0, .int .i64 0, .int .i64 0, .slice none 0 0] 36))).setRow (w9.heap.size) (map16 c X9 Rk.1.length cx9).toArray) := (HKC3.out).trans (Keep.row _ _ _) (fun i hi e => by have e2 : i = w9.heap.size := e; omega)
                    have HKF4 := hid hkF4
                    have HBF4 := hid (hba4.row (map16 c X9 Rk.1.length cx9).toArray)
                    have HTF4 : Hid (Th (((w9.alloc (.cells #[.int .i64 0, .slice none 0 0, .slice none 0 0, .slice none 0 0, .slice none 0 0, .int .i64 0, .int .i64 0, .int .i64 0, .int .i64 0, .int .i64 0, .int .i64 0, .int .i64 0, .int .i64 0, .int .i64 0, .int .i64 0, .slice none 0 0] 36))).setRow (w9.heap.size) (map16 c X9 Rk.1.length cx9).toArray) (fun i => i = sb ∨ i = w4.heap.size ∨ i = w.heap.size + 1) X9 Rk.1) := hid (((HT9.out.fresh.same hkn).keep (Keep.row _ _ _) (fun i hi e => .inr (by have e2 : i = w9.heap.size := e; omega))).wide (fun i _ h => .inl (.inl h)))
                    refine hK.out _ _ ⟨⟨HX7.out.keep hkF4 (fun f => f), HB7.out.keep hkF4 (fun f => f)⟩, (HB7.out.keep hkF4 (fun f => f)).at_ 4⟩ (fun hHeldF4 => ?_)
                    clear hK K
                    try simp only [Act.put, List.setIfInBounds_toArray]
                    refine takeO (i := 11) (v := ?_) (by kernel_rfl) (by kernel_rfl) (by kernel_rfl) (fun c a d v w h => by cases d <;> exact h) (oi := ?_) ?_ ?_ (by assumption) ?_
                    rotate_left 2
                    · (simp only [List.getElem?_toArray, List.getElem?_cons_succ, List.getElem?_cons_zero]; rfl)
                    · (refine Or.inl ⟨by rfl, ?_⟩; intro w hSw; (try dsimp only at hSw); go_simp; try with_reducible rfl)
                    try simp only [Act.put]
                    refine wpAnyH_done (by kernel_rfl) ?_ _
                    go_wp2_with fail
                    go_meet
                    exact ⟨_, X9, cx9, rfl, rfl, hid ⟨by omega, HBF4.out, HTF4.out, HKF4.out⟩⟩
                  · go_simp
                    have hbn := Blk.made w8a 36 #[.int .i64 0, .slice none 0 0, .slice none 0 0, .slice none 0 0, .slice none 0 0, .int .i64 0, .int .i64 0, .int .i64 0, .int .i64 0, .int .i64 0, .int .i64 0, .int .i64 0, .int .i64 0, .int .i64 0, .int .i64 0, .slice none 0 0]
                    have hkn : Same w8a (w8a.alloc (.cells #[.int .i64 0, .slice none 0 0, .slice none 0 0, .slice none 0 0, .slice none 0 0, .int .i64 0, .int .i64 0, .int .i64 0, .int .i64 0, .int .i64 0, .int .i64 0, .int .i64 0, .int .i64 0, .int .i64 0, .int .i64 0, .slice none 0 0] 36)) := (Keep.refl _ _).alloc _
                    have hle2 : w7.heap.size ≤ w8a.heap.size := (HKA1.out).size
                    have hkC2 : Same w7 (w8a.alloc (.cells #[.int .i64 0, .slice none 0 0, .slice none 0 0, .slice none 0 0, .slice none 0 0, .int .i64 0, .int .i64 0, .int .i64 0, .int .i64 0, .int .i64 0, .int .i64 0, .int .i64 0, .int .i64 0, .int .i64 0, .int .i64 0, .slice none 0 0] 36)) := (HKA1.out).then hkn
                    have HKC2 := hid hkC2
                    have HBN := hid hbn
                    have HLE := hid hle2
                    have hltn := hbn.lt
                    have HLTN := hid hltn
                    clear hbn hltn
                    refine hK.out _ _ ⟨⟨HX7.out.keep hkC2 (fun f => f), HB7.out.keep hkC2 (fun f => f)⟩, (HB7.out.keep hkC2 (fun f => f)).at_ 4⟩ (fun hHeldC2 => ?_)
                    clear hK K hkC2
                    try simp only [Act.put, List.setIfInBounds_toArray, List.set_cons_zero, List.set_cons_succ]
                    refine wpAnyH_ready (rs := [5]) (by kernel_rfl) (by simp) ?_
                    refine AllReadyH.cons rfl (fun K hK => ?_) AllReadyH.nil
                    have HLTB := HLTN
                    go_simp
                    refine (HDW.out _ (HKC2.out)).mono ?_
                    rintro e w9 ⟨X9, cx9, rfl, ht9, hk9⟩
                    have HT9 := hid ht9
                    have HK9 := hid hk9
                    have hkB5 : Same w7 w9 := (HKC2.out).then hk9
                    have HKB5 := hid hkB5
                    clear hk9 ht9
                    refine hK.out _ _ ⟨⟨HX7.out.keep hkB5 (fun f => f), HB7.out.keep hkB5 (fun f => f)⟩, (HB7.out.keep hkB5 (fun f => f)).at_ 4⟩ (fun hHeldB5 => ?_)
                    clear hK K hkB5
                    try simp only [Act.put, List.setIfInBounds_toArray, List.set_cons_zero, List.set_cons_succ]
                    refine takeO (i := 6) (v := ?_) (by kernel_rfl) (by kernel_rfl) (by kernel_rfl) (fun c a d v w h => by cases d <;> exact h) (oi := ?_) ?_ ?_ (by assumption) ?_
                    rotate_left 2
                    · (simp only [List.getElem?_toArray, List.getElem?_cons_succ, List.getElem?_cons_zero]; rfl)
                    · (refine Or.inl ⟨by rfl, ?_⟩; intro w hSw; (try dsimp only at hSw); go_simp; try with_reducible rfl)
                    try simp only [Act.put, List.setIfInBounds_toArray, List.set_cons_zero, List.set_cons_succ]
                    refine takeO (i := 7) (v := ?_) (by kernel_rfl) (by kernel_rfl) (by kernel_rfl) (fun c a d v w h => by cases d <;> exact h) (oi := ?_) ?_ ?_ (by assumption) ?_
                    rotate_left 2
                    · (simp only [List.getElem?_toArray, List.getElem?_cons_succ, List.getElem?_cons_zero]; rfl)
                    · (refine Or.inl ⟨by rfl, ?_⟩; intro w hSw; (try dsimp only at hSw); go_simp; try with_reducible rfl)
                    try simp only [Act.put, List.setIfInBounds_toArray, List.set_cons_zero, List.set_cons_succ]
                    refine takeO (i := 8) (v := ?_) (by kernel_rfl) (by kernel_rfl) (by kernel_rfl) (fun c a d v w h => by cases d <;> exact h) (oi := ?_) ?_ ?_ (by assumption) ?_
                    rotate_left 2
                    · (simp only [List.getElem?_toArray, List.getElem?_cons_succ, List.getElem?_cons_zero]; rfl)
                    · (refine Or.inl ⟨by rfl, ?_⟩; intro w hSw; (try dsimp only at hSw); go_simp; try with_reducible rfl)
                    try simp only [Act.put, List.setIfInBounds_toArray, List.set_cons_zero, List.set_cons_succ]
                    refine wpAnyH_ready (rs := [10]) (by kernel_rfl) (by simp) ?_
                    refine AllReadyH.cons rfl (fun K hK => ?_) AllReadyH.nil
                    have hba6 := (HBN.out).keep HK9.out (fun f => f)
                    refine store_step rfl _ (.tmp 13) (.tmp 71) rfl (w8a.heap.size) (map16 c X9 Rk.1.length cx9).toArray rfl rfl 36 _ hba6 (by kernel_rfl) rfl (one_toArray (map16_one _ _ _ _)) ?_
                    have hkF6 : Same w7 ((w9).setRow (w8a.heap.size) (map16 c X9 Rk.1.length cx9).toArray) := (HKB5.out).trans (Keep.row _ _ _) (fun i hi e => by have e2 : i = w8a.heap.size := e; omega)
                    have HKF6 := hid hkF6
                    have HBF6 := hid (hba6.row (map16 c X9 Rk.1.length cx9).toArray)
                    have HTF6 : Hid (Th ((w9).setRow (w8a.heap.size) (map16 c X9 Rk.1.length cx9).toArray) (fun i => i = sb ∨ i = w4.heap.size ∨ i = w.heap.size + 1) X9 Rk.1) := hid ((HT9.out.keep (Keep.row _ _ _) (fun i hi e => .inr (by have e2 : i = w8a.heap.size := e; rw [e2]; exact ⟨HLE.out, HLTB.out⟩))).wide (fun i _ h => .inl h))
                    refine hK.out _ _ ⟨⟨HX7.out.keep hkF6 (fun f => f), HB7.out.keep hkF6 (fun f => f)⟩, (HB7.out.keep hkF6 (fun f => f)).at_ 4⟩ (fun hHeldF6 => ?_)
                    clear hK K
                    try simp only [Act.put, List.setIfInBounds_toArray]
                    refine takeO (i := 11) (v := ?_) (by kernel_rfl) (by kernel_rfl) (by kernel_rfl) (fun c a d v w h => by cases d <;> exact h) (oi := ?_) ?_ ?_ (by assumption) ?_
                    rotate_left 2
                    · (simp only [List.getElem?_toArray, List.getElem?_cons_succ, List.getElem?_cons_zero]; rfl)
                    · (refine Or.inl ⟨by rfl, ?_⟩; intro w hSw; (try dsimp only at hSw); go_simp; try with_reducible rfl)
                    try simp only [Act.put]
                    refine wpAnyH_done (by kernel_rfl) ?_ _
                    go_wp2_with fail
                    go_meet
                    exact ⟨_, X9, cx9, rfl, rfl, hid ⟨by omega, HBF6.out, HTF6.out, HKF6.out⟩⟩
                · go_simp
                  have hbn := Blk.made w7.drew 36 #[.int .i64 0, .slice none 0 0, .slice none 0 0, .slice none 0 0, .slice none 0 0, .int .i64 0, .int .i64 0, .int .i64 0, .int .i64 0, .int .i64 0, .int .i64 0, .int .i64 0, .int .i64 0, .int .i64 0, .int .i64 0, .slice none 0 0]
                  have hkn : Same w7.drew (w7.drew.alloc (.cells #[.int .i64 0, .slice none 0 0, .slice none 0 0, .slice none 0 0, .slice none 0 0, .int .i64 0, .int .i64 0, .int .i64 0, .int .i64 0, .int .i64 0, .int .i64 0, .int .i64 0, .int .i64 0, .int .i64 0, .int .i64 0, .slice none 0 0] 36)) := (Keep.refl _ _).alloc _
                  have hle1 : w7.heap.size ≤ w7.drew.heap.size := ((Keep.refl (fun _ => False) w7).drew).size
                  have hkC1 : Same w7 (w7.drew.alloc (.cells #[.int .i64 0, .slice none 0 0, .slice none 0 0, .slice none 0 0, .slice none 0 0, .int .i64 0, .int .i64 0, .int .i64 0, .int .i64 0, .int .i64 0, .int .i64 0, .int .i64 0, .int .i64 0, .int .i64 0, .int .i64 0, .slice none 0 0] 36)) := ((Keep.refl (fun _ => False) w7).drew).then hkn
                  have HKC1 := hid hkC1
                  have HBN := hid hbn
                  have HLE := hid hle1
                  have hltn := hbn.lt
                  have HLTN := hid hltn
                  clear hbn hltn
                  refine hK.out _ _ ⟨⟨HX7.out.keep hkC1 (fun f => f), HB7.out.keep hkC1 (fun f => f)⟩, (HB7.out.keep hkC1 (fun f => f)).at_ 4⟩ (fun hHeldC1 => ?_)
                  clear hK K hkC1
                  try simp only [Act.put, List.setIfInBounds_toArray, List.set_cons_zero, List.set_cons_succ]
                  refine wpAnyH_ready (rs := [2]) (by kernel_rfl) (by simp) ?_
                  refine AllReadyH.cons rfl (fun K hK => ?_) AllReadyH.nil
                  go_simp
                  refine (HCM.out _).mono ?_
                  rintro e w8b ⟨rfl, hk8⟩
                  have hkA7 : Same w7 w8b := (HKC1.out).then hk8
                  have HKA7 := hid hkA7
                  have HKN8 := hid hk8
                  have HLTN := hid (Nat.lt_of_lt_of_le HLTN.out hk8.size)
                  clear hk8
                  refine hK.out _ _ ⟨⟨HX7.out.keep hkA7 (fun f => f), HB7.out.keep hkA7 (fun f => f)⟩, (HB7.out.keep hkA7 (fun f => f)).at_ 4⟩ (fun hHeldA7 => ?_)
                  clear hK K hkA7
                  try simp only [Act.put, List.setIfInBounds_toArray, List.set_cons_zero, List.set_cons_succ]
                  refine wpAnyH_ready (rs := [5]) (by kernel_rfl) (by simp) ?_
                  refine AllReadyH.cons rfl (fun K hK => ?_) AllReadyH.nil
                  have HLTB := HLTN
                  go_simp
                  refine (HDW.out _ (HKA7.out)).mono ?_
                  rintro e w9 ⟨X9, cx9, rfl, ht9, hk9⟩
                  have HT9 := hid ht9
                  have HK9 := hid hk9
                  have hkB8 : Same w7 w9 := (HKA7.out).then hk9
                  have HKB8 := hid hkB8
                  clear hk9 ht9
                  refine hK.out _ _ ⟨⟨HX7.out.keep hkB8 (fun f => f), HB7.out.keep hkB8 (fun f => f)⟩, (HB7.out.keep hkB8 (fun f => f)).at_ 4⟩ (fun hHeldB8 => ?_)
                  clear hK K hkB8
                  try simp only [Act.put, List.setIfInBounds_toArray, List.set_cons_zero, List.set_cons_succ]
                  refine takeO (i := 6) (v := ?_) (by kernel_rfl) (by kernel_rfl) (by kernel_rfl) (fun c a d v w h => by cases d <;> exact h) (oi := ?_) ?_ ?_ (by assumption) ?_
                  rotate_left 2
                  · (simp only [List.getElem?_toArray, List.getElem?_cons_succ, List.getElem?_cons_zero]; rfl)
                  · (refine Or.inl ⟨by rfl, ?_⟩; intro w hSw; (try dsimp only at hSw); go_simp; try with_reducible rfl)
                  try simp only [Act.put, List.setIfInBounds_toArray, List.set_cons_zero, List.set_cons_succ]
                  refine takeO (i := 7) (v := ?_) (by kernel_rfl) (by kernel_rfl) (by kernel_rfl) (fun c a d v w h => by cases d <;> exact h) (oi := ?_) ?_ ?_ (by assumption) ?_
                  rotate_left 2
                  · (simp only [List.getElem?_toArray, List.getElem?_cons_succ, List.getElem?_cons_zero]; rfl)
                  · (refine Or.inl ⟨by rfl, ?_⟩; intro w hSw; (try dsimp only at hSw); go_simp; try with_reducible rfl)
                  try simp only [Act.put, List.setIfInBounds_toArray, List.set_cons_zero, List.set_cons_succ]
                  refine takeO (i := 8) (v := ?_) (by kernel_rfl) (by kernel_rfl) (by kernel_rfl) (fun c a d v w h => by cases d <;> exact h) (oi := ?_) ?_ ?_ (by assumption) ?_
                  rotate_left 2
                  · (simp only [List.getElem?_toArray, List.getElem?_cons_succ, List.getElem?_cons_zero]; rfl)
                  · (refine Or.inl ⟨by rfl, ?_⟩; intro w hSw; (try dsimp only at hSw); go_simp; try with_reducible rfl)
                  try simp only [Act.put, List.setIfInBounds_toArray, List.set_cons_zero, List.set_cons_succ]
                  refine wpAnyH_ready (rs := [10]) (by kernel_rfl) (by simp) ?_
                  refine AllReadyH.cons rfl (fun K hK => ?_) AllReadyH.nil
                  have hba9 := ((HBN.out.keep (S := fun _ => False) (HKN8.out) (fun f => f))).keep HK9.out (fun f => f)
                  refine store_step rfl _ (.tmp 13) (.tmp 71) rfl (w7.drew.heap.size) (map16 c X9 Rk.1.length cx9).toArray rfl rfl 36 _ hba9 (by kernel_rfl) rfl (one_toArray (map16_one _ _ _ _)) ?_
                  have hkF9 : Same w7 ((w9).setRow (w7.drew.heap.size) (map16 c X9 Rk.1.length cx9).toArray) := (HKB8.out).trans (Keep.row _ _ _) (fun i hi e => by have e2 : i = w7.drew.heap.size := e; omega)
                  have HKF9 := hid hkF9
                  have HBF9 := hid (hba9.row (map16 c X9 Rk.1.length cx9).toArray)
                  have HTF9 : Hid (Th ((w9).setRow (w7.drew.heap.size) (map16 c X9 Rk.1.length cx9).toArray) (fun i => i = sb ∨ i = w4.heap.size ∨ i = w.heap.size + 1) X9 Rk.1) := hid ((HT9.out.keep (Keep.row _ _ _) (fun i hi e => .inr (by have e2 : i = w7.drew.heap.size := e; rw [e2]; exact ⟨HLE.out, HLTB.out⟩))).wide (fun i _ h => .inl h))
                  refine hK.out _ _ ⟨⟨HX7.out.keep hkF9 (fun f => f), HB7.out.keep hkF9 (fun f => f)⟩, (HB7.out.keep hkF9 (fun f => f)).at_ 4⟩ (fun hHeldF9 => ?_)
                  clear hK K
                  try simp only [Act.put, List.setIfInBounds_toArray]
                  refine takeO (i := 11) (v := ?_) (by kernel_rfl) (by kernel_rfl) (by kernel_rfl) (fun c a d v w h => by cases d <;> exact h) (oi := ?_) ?_ ?_ (by assumption) ?_
                  rotate_left 2
                  · (simp only [List.getElem?_toArray, List.getElem?_cons_succ, List.getElem?_cons_zero]; rfl)
                  · (refine Or.inl ⟨by rfl, ?_⟩; intro w hSw; (try dsimp only at hSw); go_simp; try with_reducible rfl)
                  try simp only [Act.put]
                  refine wpAnyH_done (by kernel_rfl) ?_ _
                  go_wp2_with fail
                  go_meet
                  exact ⟨_, X9, cx9, rfl, rfl, hid ⟨by omega, HBF9.out, HTF9.out, HKF9.out⟩⟩
              case rest =>
                obtain ⟨a, X9, cx9, rfl, rfl, HC⟩ := hcut
                have hX := HX7.out.keep HC.out.2.2.2 (fun f => f)
                have HX := hid hX
                have ha4 : ¬ a = w4.heap.size := by have h1 := HC.out.1; omega
                clear hX
                go_wp2_with (first
                  | (refine wpList_load_row rfl _ (.tmp 13) rfl a rfl _ (map16 c X9 Rk.1.length cx9).toArray (0, 0) _ HC.out.2.1 Try.underlying36 rfl (by kernel_rfl) ?_)
                  | (refine wpList_store_row rfl _ (.tmp 7) (.tmp 73) rfl w4.heap.size (map16 c X9 Rk.1.length cx9).toArray rfl rfl _ _ HX.out (by kernel_rfl) rfl (one_toArray (map16_one _ _ _ _)) ?_))
                go_roundw
                case rel =>
                  have hkk := ((HK7r.out.trans HC.out.2.2.2 (fun _ _ f => f.elim)).wide (T := fun i => i = sb ∨ i = w4.heap.size) (fun i _ e => .inl e)).trans (Keep.row _ w4.heap.size (map16 c X9 Rk.1.length cx9).toArray) (fun i _ e => .inr e)
                  refine ⟨k + 1, X9, cx9, by omega, by go_num, by simp, hid ?_⟩
                  rw [HSN.out]
                  refine ⟨?_, HC.out.2.2.1.keep (Keep.row _ _ _) (fun i _ e => .inr (.inl e)), HX.out.row _, HI.out.2.2.2.trans hkk (fun _ _ e => e)⟩
                  have ht8 := HD7.out.tab.keep HC.out.2.2.2 (fun f => f) (fun f => f)
                  have ht9 := ht8.keep (Keep.row _ w4.heap.size (map16 c X9 Rk.1.length cx9).toArray) (by have h1 := HL4.out; omega) (by have h1 := HL4.out; omega)
                  have h34 := HK4.out.size
                  exact HD3.out.late HDS3.out HL9.out ((HK35.out.wide (T := fun i => i = sb ∨ i < w2.heap.size ∨ w3.heap.size ≤ i) (fun _ _ f => f.elim)).trans (HI.out.2.2.2.trans hkk (fun _ _ e => e)) (fun i _ e => by rcases e with e | e; exact .inl e; exact .inr (.inr (by omega)))) ht9 HD7.out.ok
                case measure => simp [intOf]; omega
            · obtain rfl : k = acts.length := by omega
              have HI2 := HI.out
              rw [List.take_of_length_le (Nat.le_refl _)] at HI2
              have HI3 := hid HI2
              clear HI2
              have HZR := hid (HZ5.out.keep HI3.out.2.2.2 (by have h1 := HL2.out; have h2 := HZ4.out.lt; omega))
              go_wp2_with fail
              refine wp_region_held_drew (S := fun W => Blk W w4.heap.size 36 (map16 c X1 (runD c acts (initL c.cen.toNat c.h3)).length cx1).toArray) (by kernel_rfl) HI3.out.2.2.1 (fun hHeld => ?_)
              refine takeO (i := 0) (v := ?_) (by kernel_rfl) (by kernel_rfl) (by kernel_rfl) (fun c a d v w h => by cases d <;> exact h) (oi := ?_) ?_ ?_ (by assumption) ?_
              rotate_left 2
              · (simp only [List.getElem?_toArray, List.getElem?_cons_zero]; rfl)
              · (refine Or.inl ⟨by rfl, ?_⟩; intro w hSw; (try dsimp only at hSw); go_simp; try with_reducible rfl)
              try simp only [Act.put, List.setIfInBounds_toArray, List.set_cons_zero, List.set_cons_succ]
              refine takeL (i := 1) (by kernel_rfl) (by kernel_rfl) (by kernel_rfl) (fun c a d v w h => by cases d <;> exact h) (oi := ?_) ?_ _ (.tmp 7) ?_ ?_ (w4.heap.size) ?_ 36 ((map16 c X1 (runD c acts (initL c.cen.toNat c.h3)).length cx1).toArray) (0, 0) _ (fun W hW => hW) Try.underlying36 rfl (by kernel_rfl) (by assumption) ?_
              rotate_left 1
              · (simp only [List.getElem?_toArray, List.getElem?_cons_succ, List.getElem?_cons_zero]; rfl)
              · rfl
              · rfl
              · rfl
              try simp only [Act.put, List.setIfInBounds_toArray, List.set_cons_zero, List.set_cons_succ]
              refine takeO (i := 2) (v := ?_) (by kernel_rfl) (by kernel_rfl) (by kernel_rfl) (fun c a d v w h => by cases d <;> exact h) (oi := ?_) ?_ ?_ (by assumption) ?_
              rotate_left 2
              · (simp only [List.getElem?_toArray, List.getElem?_cons_succ, List.getElem?_cons_zero]; rfl)
              · (refine Or.inl ⟨by rfl, ?_⟩; intro w hSw; (try dsimp only at hSw); go_simp; try with_reducible rfl)
              try simp only [Act.put, List.setIfInBounds_toArray, List.set_cons_zero, List.set_cons_succ]
              refine takeO (i := 3) (v := ?_) (by kernel_rfl) (by kernel_rfl) (by kernel_rfl) (fun c a d v w h => by cases d <;> exact h) (oi := ?_) ?_ ?_ (by assumption) ?_
              rotate_left 2
              · (simp only [List.getElem?_toArray, List.getElem?_cons_succ, List.getElem?_cons_zero]; rfl)
              · (refine Or.inl ⟨by rfl, ?_⟩; intro w hSw; (try dsimp only at hSw); go_simp; try with_reducible rfl)
              try simp only [Act.put, List.setIfInBounds_toArray, List.set_cons_zero, List.set_cons_succ]
              refine wpAnyH_ready (rs := [4]) (by kernel_rfl) (by simp) ?_
              refine AllReadyH.cons rfl (fun K hK => ?_) AllReadyH.nil
              refine store_step rfl _ (.tmp 3) (.tmp 82) rfl (w.heap.size + 1) ((map16 c X1 (runD c acts (initL c.cen.toNat c.h3)).length cx1).toArray) rfl rfl 36 _ HZR.out (by kernel_rfl) rfl (one_toArray (map16_one _ _ _ _)) ?_
              refine hK.out _ _ (HI3.out.2.2.1.drew.keep (Keep.row _ _ _) (fun e => by have e2 : w4.heap.size = w.heap.size + 1 := e; have h1 := HZ4.out.lt; omega)) (fun hHeld1 => ?_)
              clear hK K
              try simp only [Act.put, List.setIfInBounds_toArray]
              refine takeO (i := 5) (v := ?_) (by kernel_rfl) (by kernel_rfl) (by kernel_rfl) (fun c a d v w h => by cases d <;> exact h) (oi := ?_) ?_ ?_ (by assumption) ?_
              rotate_left 2
              · (simp only [List.getElem?_toArray, List.getElem?_cons_succ, List.getElem?_cons_zero]; rfl)
              · (refine Or.inl ⟨by rfl, ?_⟩; intro w hSw; (try dsimp only at hSw); go_simp; try with_reducible rfl)
              try simp only [Act.put]
              refine wpAnyH_done (by kernel_rfl) ?_ _
              go_wp2_with fail
              have hrow := Keep.row wr.drew (w.heap.size + 1) (map16 c X1 (runD c acts (initL c.cen.toNat c.h3)).length cx1).toArray
              have hkk : Same w (wr.drew.setRow (w.heap.size + 1) (map16 c X1 (runD c acts (initL c.cen.toNat c.h3)).length cx1).toArray) := ((HW5.out.trans HI3.out.2.2.2 (fun i hi e => by have h1 := HL.out.2.2; have h2 := HW4.out.size; rcases e with e | e <;> omega)).drew).trans hrow (fun i hi e => by have e2 : i = w.heap.size + 1 := e; omega)
              refine bodyPost_ret (results_mid rfl _ _ _ _ _ _ _ _ _ rfl rfl rfl (HZR.out.drew.row _) Try.underlying36 rfl (by kernel_rfl)) rfl ?_
              refine .inr ⟨HVN.out, by omega, HD60.out, mb, tb, sb, A, cp, X1, cx1, rfl, ⟨?_, ?_, HL.out.1, HL.out.2.1, HL.out.2.2⟩, hkk⟩
              · have h34 := HK4.out.size
                have h2 := HZ2.out.lt
                have hd8 := (HK35.out.wide (T := fun i => i = sb ∨ i < w2.heap.size ∨ w3.heap.size ≤ i) (fun _ _ f => f.elim)).trans HI3.out.2.2.2 (fun i _ e => by rcases e with e | e; exact .inl e; exact .inr (.inr (by omega)))
                have ht8 := (HI3.out.1.tab.keep (Keep.refl (fun _ => False) wr).drew (fun f => f) (fun f => f)).keep hrow (by have h1 := HL2.out; omega) (by have h1 := HL2.out; omega)
                exact HD3.out.late HDS3.out HL9.out (hd8.drew.trans hrow (fun i _ e => .inr (.inl (by have e2 : i = w.heap.size + 1 := e; omega)))) ht8 HI3.out.1.ok
              · exact ((HI3.out.2.1.same (Keep.refl _ _).drew).keep hrow (fun i _ e => .inr (.inr e))).wide (fun i _ e => .inl e)
end Go.Proofs.Ytmkcphhgimlkgaa

import Derived.Test.YtafpcffhkbeloaaDoorLoK
namespace Go.Proofs.YtafpcffhkbeloaaDoor
open Go.RowKit

/-! ## Tell: a Spot in memory -/
structure Sp where
  A : Option Addr
  ca : Nat
  all : List Int
  B : Option Addr
  cb : Nat
  wh : List Int
  X : Option Addr
  cx : Nat
  l : List Sr
  Y : Option Addr
  cy : Nat
/-- the four cells -/
def spotS (p : Sp) : List Value := [.slice p.A p.all.length p.ca, .slice p.B p.wh.length p.cb, .slice p.X p.l.length p.cx, .slice p.Y p.l.length p.cy]
def Sp.cells (p : Sp) : List Value := spotS p
structure SpOk (w : World) (Av : Nat → Prop) (p : Sp) (oks : List Bool) : Prop where
  all_ : Sl w Av 1 p.A p.all.length (icells p.all)
  wh_ : Sl w Av 1 p.B p.wh.length (icells p.wh)
  srcs : Srs w Av p.X p.l
  sure : Sl w Av 1 p.Y p.l.length (bcells oks)
theorem SpOk.same {w w' : World} {Av : Nat → Prop} {p : Sp} {oks : List Bool} (h : SpOk w Av p oks) (hk : Same w w') : SpOk w' Av p oks :=
  ⟨h.all_.same hk, h.wh_.same hk, h.srcs.same hk, h.sure.same hk⟩
theorem SpOk.wide {w : World} {Av Av' : Nat → Prop} {p : Sp} {oks : List Bool} (h : SpOk w Av p oks) (hS : ∀ i, i < w.heap.size → Av' i → Av i) : SpOk w Av' p oks :=
  ⟨Sl.wide h.all_ hS, Sl.wide h.wh_ hS, h.srcs.wide hS, Sl.wide h.sure hS⟩
theorem SpOk.keep {S Av : Nat → Prop} {w w' : World} {p : Sp} {oks : List Bool} (h : SpOk w Av p oks) (hk : Keep S w w') (hS : ∀ i, i < w.heap.size → S i → Av i) : SpOk w' Av p oks :=
  ⟨Sl.keep h.all_ hk hS, Sl.keep h.wh_ hk hS, h.srcs.keep hk hS, Sl.keep h.sure hk hS⟩
theorem SpOk.len {w : World} {Av : Nat → Prop} {p : Sp} {oks : List Bool} (h : SpOk w Av p oks) : oks.length = p.l.length := by
  have := h.sure.len; simpa [bcells] using this
theorem EBool : Elem Tryd.prog 34 4 1 1 (.bool false) := ⟨Tryd.underlying34, by kernel_rfl, rfl, by decide⟩
/-- the reference's Tell: where, the source's mark, smaller, error -/
def tellS (wh : List Int) (n : Nat) (kd : Int) (ns : List Int) : List Int × Option Bool × Bool × Int :=
  if rightB kd ns.length = false then (wh, none, false, 1)
  else if 64 ≤ n then (wh, none, false, 3)
  else if (bothL wh (setL ns)).length = 0 then (wh, some false, false, 0)
  else (bothL wh (setL ns), some true, decide ((bothL wh (setL ns)).length < wh.length), 0)
/-- the state of Tell's call at its entry: the boxes of the spot and of the source, and the result's cell -/
def tellW (w : World) (p : Sp) (x : Sr) : World := ((w.alloc (.cells p.cells.toArray 36)).alloc (.cells x.cells.toArray 40)).alloc (.cells #[.slice none 0 0, .slice none 0 0, .slice none 0 0, .slice none 0 0] 36)
theorem tell_entry (w : World) (p : Sp) (x : Sr) : Same w (tellW w p x) ∧ Blk (tellW w p x) w.heap.size 36 p.cells.toArray ∧ Blk (tellW w p x) (w.heap.size + 1) 40 x.cells.toArray ∧
    Blk (tellW w p x) (w.heap.size + 2) 36 #[.slice none 0 0, .slice none 0 0, .slice none 0 0, .slice none 0 0] := by
  have h1 := Blk.made (w.alloc (.cells p.cells.toArray 36)) 40 x.cells.toArray
  have h2 := Blk.made ((w.alloc (.cells p.cells.toArray 36)).alloc (.cells x.cells.toArray 40)) 36 #[.slice none 0 0, .slice none 0 0, .slice none 0 0, .slice none 0 0]
  rw [World.size_alloc] at h1
  rw [World.size_alloc, World.size_alloc] at h2
  exact ⟨(((Keep.refl _ _).alloc _).alloc _).alloc _, ((Blk.made w _ _).alloc _).alloc _, h1.alloc _, h2⟩
theorem results_cell_tmp2 {P : Program} {fn : Func} {p q r : Tmp} {ty : TypeId} (h : fn.results = #[.cell p ty, .tmp q, .tmp r]) (tmps : Array Value) (w : World) (g : Nat) (t : TypeId) (cs : Array Value) (fr : Nat × Nat) (d : TypeDesc) (v v2 : Value)
    (hp : tmps.getD p undef = .pointer (some ⟨g, 0, none⟩)) (hq : tmps.getD q undef = v) (hr : tmps.getD r undef = v2) (hg : w.heap[g]? = some (.cells cs t fr))
    (hu : P.underlying ty = some d) (hd : (match d with | .struct _ | .array _ _ => true | _ => false) = true) (hi : (P.info? ty).map (·.size) = some cs.size) :
    (results fn tmps).run P w = .ok (.tuple #[.agg cs, v, v2]) w := by
  have hp' : tmps[p]?.getD undef = .pointer (some ⟨g, 0, none⟩) := by simpa using hp
  have hq' : tmps[q]?.getD undef = v := by simpa using hq
  have hr' : tmps[r]?.getD undef = v2 := by simpa using hr
  simp [results, h, hp', hq', hr', asAddr, run_loadVar_row w g t ty cs fr d hg hu hd hi]
theorem sp_one (p : Sp) : ∀ u ∈ p.cells, u.oneCell' = true := by
  intro u hu
  simp only [Sp.cells, spotS, List.mem_cons, List.not_mem_nil, or_false] at hu
  rcases hu with rfl | rfl | rfl | rfl <;> rfl
/-- a spot as Tell returns it -/
def TellPost (w : World) (Av : Nat → Prop) (p : Sp) (oks : List Bool) (x : Int × List Int) (e : Ending) (w' : World) : Prop :=
  ∃ p' oks', e = .returned (.tuple #[.agg p'.cells.toArray, .bool (tellS p.wh p.l.length x.1 x.2).2.2.1, .int .i64 (tellS p.wh p.l.length x.1 x.2).2.2.2]) ∧ p'.all = p.all ∧ p'.wh = (tellS p.wh p.l.length x.1 x.2).1 ∧
    keys p'.l = keys p.l ++ (match (tellS p.wh p.l.length x.1 x.2).2.1 with | some _ => [x] | none => []) ∧ oks' = oks ++ (match (tellS p.wh p.l.length x.1 x.2).2.1 with | some b => [b] | none => []) ∧ SpOk w' (fun i => i < w.heap.size ∧ Av i) p' oks' ∧ Same w w'
theorem one_rest8 {F G : Nat → Option Addr → Nat → Nat → Option Addr → Nat → World → Prop} {goal : Prop} (main : (∀ g b d h a c W, F g b d h a c W → G g b d h a c W) → goal) (rest : ∀ g b d h a c W, F g b d h a c W → G g b d h a c W) : goal := main rest
theorem srcs_one (l : List Sr) : ∀ u ∈ srcells l, u.oneCell' = true := by
  intro u hu
  simp only [srcells, List.mem_flatMap] at hu
  obtain ⟨s, _, h⟩ := hu
  exact src_one s u h
theorem bcells_one (l : List Bool) : ∀ u ∈ bcells l, u.oneCell' = true := by
  intro u hu
  simp only [bcells, List.mem_map] at hu
  obtain ⟨s, _, rfl⟩ := hu
  rfl
set_option maxRecDepth 100000 in
set_option maxHeartbeats 8000000 in
theorem tell_any (w : World) (Av : Nat → Prop) (p : Sp) (oks : List Bool) (hp : SpOk w Av p oks) (x : Sr) (hx : SrOk w Av x) (hn : x.ns.length ≤ 1000) (hw : p.wh.length ≤ 4096) (hl : p.l.length ≤ 64) :
    Calls Tryd.prog 15 #[.agg p.cells.toArray, .agg x.cells.toArray] w (TellPost w Av p oks x.key) := by
  obtain ⟨hk, h0, h1, h2⟩ := tell_entry w p x
  unfold tellW at hk h0 h1 h2
  generalize hw1 : (((w.alloc (.cells p.cells.toArray 36)).alloc (.cells x.cells.toArray 40)).alloc (.cells #[.slice none 0 0, .slice none 0 0, .slice none 0 0, .slice none 0 0] 36)) = w1 at *
  have HK := hid hk
  have H0 := hid h0
  have H1 := hid h1
  have H2 := hid h2
  have HP := hid (hp.wide (Av' := fun i => w.heap.size ≤ i ∨ Av i) (fun i hi e => e.elim (fun e => absurd hi (Nat.not_lt.2 e)) id))
  have HX := hid hx
  have HR := hid (right_any w1 x)
  clear hk h0 h1 h2 hp hx
  go_enter Tryd.func15, Tryd.ntmps15
  go_upto_region 1 with fail
  try rw [hw1]
  clear hw1
  by_cases hr : rightB x.kd x.ns.length = false
  · rw [hr] at HR
    have HB := hid (show tellS p.wh p.l.length x.key.1 x.key.2 = (p.wh, none, false, 1) from by rw [tellS, if_pos (show rightB x.key.1 x.key.2.length = false from hr)])
    clear hr
    go_wp2_with (refine wpList_load_row rfl _ (.tmp 3) rfl (w.heap.size + 1) rfl _ x.cells.toArray (0, 0) _ H1.out Tryd.underlying40 rfl (by kernel_rfl) ?_)
    (with_reducible refine HR.out.mono ?_)
    rintro e w3 ⟨rfl, hk3⟩
    have HK3 := hid (HK.out.then hk3)
    have H03 := hid (H0.out.keep hk3 (fun f => f))
    have H23 := hid (H2.out.keep hk3 (fun f => f))
    have HP3 := hid ((HP.out.same HK.out).same hk3)
    clear hk3
    go_wp2_with (first
      | (refine wpList_load_row rfl _ (.tmp 2) rfl w.heap.size rfl _ p.cells.toArray (0, 0) _ H03.out Tryd.underlying36 rfl (by kernel_rfl) ?_)
      | (refine wpList_store_row rfl _ (.tmp 4) (.tmp 12) rfl (w.heap.size + 2) p.cells.toArray rfl rfl _ _ H23.out (by kernel_rfl) rfl (one_toArray (sp_one p)) ?_))
    refine bodyPost_ret (results_cell_tmp2 rfl _ _ _ _ _ _ _ _ _ rfl rfl rfl (Blk.row H23.out _) Tryd.underlying36 rfl (by kernel_rfl)) rfl ?_
    rw [TellPost, HB.out]
    exact ⟨p, oks, rfl, rfl, rfl, by simp, by simp, (HP3.out.keep (Keep.row w3 (w.heap.size + 2) p.cells.toArray) (fun i _ e => by have e2 : i = w.heap.size + 2 := e; exact Or.inl (by omega))).wide (fun i _ e => Or.inr e.2), HK3.out.trans (Keep.row _ _ _) (fun i hi e => by have e2 : i = w.heap.size + 2 := e; omega)⟩
  · have hr2 : rightB x.kd x.ns.length = true := by simpa using hr
    rw [hr2] at HR
    have HRF := hid hr
    clear hr hr2
    go_upto_region 1 with fail
    go_upto_region 3 with ((first | (refine wpList_load_row rfl _ (.tmp 3) rfl (w.heap.size + 1) rfl _ x.cells.toArray (0, 0) _ H1.out Tryd.underlying40 rfl (by kernel_rfl) ?_) | ((with_reducible refine HR.out.mono ?_); rintro e w3 ⟨rfl, hk3⟩; have HK3 := hid (HK.out.then hk3); have H03 := hid (H0.out.keep hk3 (fun f => f)); have H13 := hid (H1.out.keep hk3 (fun f => f)); have H23 := hid (H2.out.keep hk3 (fun f => f)); have HP3 := hid ((HP.out.same HK.out).same hk3); clear hk3)))
    have x2 : w3.cell? ⟨w.heap.size, 2, none⟩ = some (.slice p.X p.l.length p.cx) := H03.out.at_ 2
    by_cases hfull : 64 ≤ (p.l.length : Int)
    · have HB := hid (show tellS p.wh p.l.length x.key.1 x.key.2 = (p.wh, none, false, 3) from by rw [tellS, if_neg (show ¬ rightB x.key.1 x.key.2.length = false from HRF.out), if_pos (by omega)])
      go_wp2_with (first
        | (refine wpList_load_row rfl _ (.tmp 2) rfl w.heap.size rfl _ p.cells.toArray (0, 0) _ H03.out Tryd.underlying36 rfl (by kernel_rfl) ?_)
        | (refine wpList_store_row rfl _ (.tmp 4) (.tmp 17) rfl (w.heap.size + 2) p.cells.toArray rfl rfl _ _ H23.out (by kernel_rfl) rfl (one_toArray (sp_one p)) ?_))
      refine bodyPost_ret (results_cell_tmp2 rfl _ _ _ _ _ _ _ _ _ rfl rfl rfl (Blk.row H23.out _) Tryd.underlying36 rfl (by kernel_rfl)) rfl ?_
      rw [TellPost, HB.out]
      exact ⟨p, oks, rfl, rfl, rfl, by simp, by simp, (HP3.out.keep (Keep.row w3 (w.heap.size + 2) p.cells.toArray) (fun i _ e => by have e2 : i = w.heap.size + 2 := e; exact Or.inl (by omega))).wide (fun i _ e => Or.inr e.2), HK3.out.trans (Keep.row _ _ _) (fun i hi e => by have e2 : i = w.heap.size + 2 := e; omega)⟩
    · have hfl : (p.l.length : Int) < 64 := by omega
      clear hfull
      go_upto_region 5 with fail
      have HS5 := hid (fun W (hk : Same w3 W) => (show W.cell? ⟨w.heap.size, 1, none⟩ = some (.slice p.B p.wh.length p.cb) ∧ W.cell? ⟨w.heap.size + 1, 1, none⟩ = some (.slice x.A x.ns.length x.c) from ⟨(H03.out.keep hk (fun f => f)).at_ 1, (H13.out.keep hk (fun f => f)).at_ 1⟩))
      refine wp_region_held_drew (S := fun W => W.cell? ⟨w.heap.size, 1, none⟩ = some (.slice p.B p.wh.length p.cb) ∧ W.cell? ⟨w.heap.size + 1, 1, none⟩ = some (.slice x.A x.ns.length x.c)) (by kernel_rfl) (HS5.out _ (Keep.refl _ _).drew) (fun hHeld => ?_)
      refine takeO (i := 0) (v := ?_) (by kernel_rfl) (by kernel_rfl) (by kernel_rfl) (fun c a d v w h => by cases d <;> exact h) (oi := ?_) ?_ ?_ (by assumption) ?_
      rotate_left 2
      · (simp only [List.getElem?_toArray, List.getElem?_cons_zero]; rfl)
      · (refine Or.inl ⟨by rfl, ?_⟩; intro w hSw; (try dsimp only at hSw); go_simp; try with_reducible rfl)
      try simp only [Act.put, List.setIfInBounds_toArray, List.set_cons_zero, List.set_cons_succ]
      refine takeO (i := 1) (v := ?_) (by kernel_rfl) (by kernel_rfl) (by kernel_rfl) (fun c a d v w h => by cases d <;> exact h) (oi := ?_) ?_ ?_ (by assumption) ?_
      rotate_left 2
      · (simp only [List.getElem?_toArray, List.getElem?_cons_succ, List.getElem?_cons_zero]; rfl)
      · (refine Or.inl ⟨by rfl, ?_⟩; intro w hSw; (try dsimp only at hSw); go_simp; try with_reducible rfl)
      try simp only [Act.put, List.setIfInBounds_toArray, List.set_cons_zero, List.set_cons_succ]
      refine takeO (i := 2) (v := ?_) (by kernel_rfl) (by kernel_rfl) (by kernel_rfl) (fun c a d v w h => by cases d <;> exact h) (oi := ?_) ?_ ?_ (by assumption) ?_
      rotate_left 2
      · (simp only [List.getElem?_toArray, List.getElem?_cons_succ, List.getElem?_cons_zero]; rfl)
      · (refine Or.inl ⟨by rfl, ?_⟩; intro w hSw; (try dsimp only at hSw); go_simp; try with_reducible rfl)
      try simp only [Act.put, List.setIfInBounds_toArray, List.set_cons_zero, List.set_cons_succ]
      refine takeO (i := 3) (v := ?_) (by kernel_rfl) (by kernel_rfl) (by kernel_rfl) (fun c a d v w h => by cases d <;> exact h) (oi := ?_) ?_ ?_ (by assumption) ?_
      rotate_left 2
      · (simp only [List.getElem?_toArray, List.getElem?_cons_succ, List.getElem?_cons_zero]; rfl)
      · (refine Or.inl ⟨by rfl, ?_⟩; intro w hSw; (try dsimp only at hSw); go_simp; try with_reducible rfl)
      try simp only [Act.put, List.setIfInBounds_toArray, List.set_cons_zero, List.set_cons_succ]
      refine wpAnyH_ready (rs := [4]) (by kernel_rfl) (by simp) ?_
      refine AllReadyH.cons rfl (fun K hK => ?_) AllReadyH.nil
      go_simp
      refine (set_any _ Av x.A x.c x.ns (Sl.same HX.out (HK3.out.then (Keep.refl _ _).drew)) hn).mono ?_
      rintro e w4 ⟨B4, d4, rfl, hs4, hk4⟩
      have HK4 := hid (show Same w3 w4 from (Keep.refl _ w3).drew.then hk4)
      have HS4 := hid hs4
      clear hs4 hk4
      refine hK.out _ _ (HS5.out _ HK4.out) (fun hHeld1 => ?_)
      clear hK K
      try simp only [Act.put, List.setIfInBounds_toArray, List.set_cons_zero, List.set_cons_succ]
      refine wpAnyH_ready (rs := [5]) (by kernel_rfl) (by simp) ?_
      refine AllReadyH.cons rfl (fun K hK => ?_) AllReadyH.nil
      go_simp
      refine (both_any _ _ _ p.B B4 p.cb d4 _ _ (HP3.out.wh_.same HK4.out) HS4.out (by omega) (by have := setL_le x.ns; omega)).mono ?_
      rintro e w5 ⟨B5, d5, rfl, hs5, hk5⟩
      have HK5 := hid (show Same w3 w5 from HK4.out.then hk5)
      have HS5b := hid hs5
      clear hs5 hk5
      refine hK.out _ _ (HS5.out _ HK5.out) (fun hHeld2 => ?_)
      clear hK K
      try simp only [Act.put, List.setIfInBounds_toArray, List.set_cons_zero, List.set_cons_succ]
      refine takeO (i := 6) (v := ?_) (by kernel_rfl) (by kernel_rfl) (by kernel_rfl) (fun c a d v w h => by cases d <;> exact h) (oi := ?_) ?_ ?_ (by assumption) ?_
      rotate_left 2
      · (simp only [List.getElem?_toArray, List.getElem?_cons_succ, List.getElem?_cons_zero]; rfl)
      · (refine Or.inl ⟨by rfl, ?_⟩; intro w hSw; (try dsimp only at hSw); go_simp; try with_reducible rfl)
      try simp only [Act.put, List.setIfInBounds_toArray, List.set_cons_zero, List.set_cons_succ]
      refine wpAnyH_done (by kernel_rfl) ?_ _
      clear hHeld hHeld1 hHeld2
      have H05 := hid (H03.out.keep HK5.out (fun f => f))
      have H15 := hid (H13.out.keep HK5.out (fun f => f))
      have H25 := hid (H23.out.keep HK5.out (fun f => f))
      have HP5 := hid (HP3.out.same HK5.out)
      have HX5s := hid (Sl.same (Sl.wide (Av' := fun i => w.heap.size ≤ i ∨ Av i) HX.out (fun i hi e => e.elim (fun e => absurd hi (Nat.not_lt.2 e)) id)) (HK3.out.then HK5.out))
      have HKA := hid (HK3.out.then HK5.out)
      have hsz := HKA.out.size
      have b1 : w5.cell? ⟨w.heap.size, 1, none⟩ = some (.slice p.B p.wh.length p.cb) := H05.out.at_ 1
      have HPX := hid HP5.out.srcs.row
      have HPX2 := hid (fun W (hk : Keep (fun i => i = w.heap.size) w5 W) => Sl.keep HP5.out.sure hk (fun i _ e => by have e2 : i = w.heap.size := e; exact Or.inl (by omega)))
      have HOL := hid (show (bcells oks).length = p.l.length * 1 from HP5.out.sure.len)
      obtain ⟨L, hL⟩ : ∃ L, L = (bothL p.wh (setL x.ns)).length := ⟨_, rfl⟩
      rw [← hL] at HS5b ⊢
      by_cases hz : L = 0
      · have HB := hid (show tellS p.wh p.l.length x.key.1 x.key.2 = (p.wh, some false, false, 0) from by
          rw [tellS, if_neg (show ¬ rightB x.key.1 x.key.2.length = false from HRF.out), if_neg (by omega), if_pos (show (bothL p.wh (setL x.key.2)).length = 0 from by show (bothL p.wh (setL x.ns)).length = 0; omega)])
        have hz1 : (0 : Int) < (L : Int) ↔ False := by simp; omega
        have HL := hid hL
        clear hL
        go_upto_region 7 with fail
        clear b1
        have HB5 := hid (fun W (hk : Same w5 W) => (show Blk W w.heap.size 36 #[.slice p.A p.all.length p.ca, .slice p.B p.wh.length p.cb, .slice p.X p.l.length p.cx, .slice p.Y p.l.length p.cy] from Blk.keep (S := fun _ => False) H05.out hk (fun f => f)))
        have HX5 := hid (fun W (hk : Same w5 W) => (show Blk W (w.heap.size + 1) 40 #[.int .i64 x.kd, .slice x.A x.ns.length x.c] from Blk.keep (S := fun _ => False) H15.out hk (fun f => f)))
        have HS7 := hid (fun W (hk : Same w5 W) => (show (W.cell? ⟨w.heap.size, 0, none⟩).isSome = true ∧ Blk W (w.heap.size + 1) 40 #[.int .i64 x.kd, .slice x.A x.ns.length x.c] from ⟨by rw [(HB5.out W hk).at_ 0]; rfl, HX5.out W hk⟩))
        have HS72 := hid (fun (W : World) {cs : Array Value} (hb : Blk W w.heap.size 36 cs) (hk : Keep (fun i => i = w.heap.size) w5 W) => (show 0 < cs.size → (W.cell? ⟨w.heap.size, 0, none⟩).isSome = true ∧ Blk W (w.heap.size + 1) 40 #[.int .i64 x.kd, .slice x.A x.ns.length x.c] from fun h0 => ⟨by rw [hb.at_ 0, Array.getElem?_eq_getElem h0]; rfl, Blk.keep (HX5.out w5 (Keep.refl _ _)) hk (by omega)⟩))
        refine wp_region_held_drew (S := fun W => (W.cell? ⟨w.heap.size, 0, none⟩).isSome = true ∧ Blk W (w.heap.size + 1) 40 #[.int .i64 x.kd, .slice x.A x.ns.length x.c]) (by kernel_rfl) (HS7.out _ (Keep.refl _ _).drew) (fun hHeld => ?_)
        refine takeO (i := 1) (v := ?_) (by kernel_rfl) (by kernel_rfl) (by kernel_rfl) (fun c a d v w h => by cases d <;> exact h) (oi := ?_) ?_ ?_ (by assumption) ?_
        rotate_left 2
        · (simp only [List.getElem?_toArray, List.getElem?_cons_succ, List.getElem?_cons_zero]; rfl)
        · (refine Or.inl ⟨by rfl, ?_⟩; intro w hSw; (try dsimp only at hSw); go_simp; try with_reducible rfl)
        try simp only [Act.put, List.setIfInBounds_toArray, List.set_cons_zero, List.set_cons_succ]
        refine takeL (i := 4) (by kernel_rfl) (by kernel_rfl) (by kernel_rfl) (fun c a d v w h => by cases d <;> exact h) (oi := ?_) ?_ _ (.tmp 3) ?_ ?_ (w.heap.size + 1) ?_ 40 (#[.int .i64 x.kd, .slice x.A x.ns.length x.c]) (0, 0) _ (fun W hW => hW.2) Tryd.underlying40 rfl (by kernel_rfl) (by assumption) ?_
        rotate_left 1
        · (simp only [List.getElem?_toArray, List.getElem?_cons_succ, List.getElem?_cons_zero]; rfl)
        · rfl
        · rfl
        · rfl
        try simp only [Act.put, List.setIfInBounds_toArray, List.set_cons_zero, List.set_cons_succ]
        clear hHeld
        apply one_rest8 (F := fun _ _ _ _ A c W => Own W w5.heap.size 40 2 (.slice A (p.l.length + 1) c) (p.l.length + 1) (srcells p.l ++ x.cells) ∧ Keep (fun i => i = w.heap.size) w5 W ∧ Blk W w.heap.size 36 #[.slice p.A p.all.length p.ca, .slice p.B p.wh.length p.cb, .slice A (p.l.length + 1) c, .slice p.Y p.l.length p.cy])
        case main =>
          intro REST
          have hkd : Same w5 w5.drew := (Keep.refl _ _).drew
          generalize w5.drew = wd at *
          refine wpAnyH_ready (rs := [0, 2, 5]) (by kernel_rfl) (by simp) ?_
          refine AllReadyH.cons rfl (fun K hK => ?_) (AllReadyH.cons rfl (fun K hK => ?_) (AllReadyH.cons rfl (fun K hK => ?_) AllReadyH.nil))
          · go_simp
            have hb1 := Blk.made (wd) 40 #[]
            have hk1 : Same (wd) ((wd).alloc (.cells #[] 40)) := (Keep.refl _ _).alloc _
            have ho1 := Own.lit0 (wd) 40 2
            obtain ⟨g1, hg1⟩ : ∃ g, g = (wd).heap.size := ⟨_, rfl⟩
            rw [← hg1] at hb1 ho1 ⊢
            have hlo1 : w5.heap.size ≤ g1 := by rw [hg1]; exact (hkd).size
            clear hg1
            generalize ((wd).alloc (.cells #[] 40)) = wo1 at *
            have hK1 : Same w5 wo1 := (hkd).then hk1
            have ho_1 := Own.rebase (base' := w5.heap.size) ho1 (fun x e => by simp [Value.ownBlock] at e; omega)
            refine hK.out _ _ (HS7.out _ (hK1)) (fun hHeld1 => ?_)
            clear hK K
            try simp only [Act.put, List.setIfInBounds_toArray, List.set_cons_zero, List.set_cons_succ]
            refine wpAnyH_ready (rs := [2, 5]) (by kernel_rfl) (by simp) ?_
            refine AllReadyH.cons rfl (fun K hK => ?_) (AllReadyH.cons rfl (fun K hK => ?_) AllReadyH.nil)
            · have e2 : (wo1).cell? ⟨w.heap.size, 2, none⟩ = some (.slice p.X p.l.length p.cx) := (HB5.out _ (hK1)).at_ 2
              go_simp
              clear e2
              refine hK.out _ _ (HS7.out _ (hK1)) (fun hHeld2 => ?_)
              clear hK K
              try simp only [Act.put, List.setIfInBounds_toArray, List.set_cons_zero, List.set_cons_succ]
              refine wpAnyH_ready (rs := [3, 5]) (by kernel_rfl) (by simp) ?_
              refine AllReadyH.cons rfl (fun K hK => ?_) (AllReadyH.cons rfl (fun K hK => ?_) AllReadyH.nil)
              · refine ESrc.step2 rfl (.tmp 35) (.tmp 37) rfl (.slice (some ⟨g1, 0, none⟩) 0 0) p.X p.l.length p.cx rfl rfl w5.heap.size 0 [] (srcells p.l) p.l.length (srcells p.l) (Nat.zero_add _) (List.nil_append _) (ho_1) (srcells_len p.l) (Sl.src HPX.out (hK1)) (srcs_one p.l) (by omega) (by unfold maxLen; omega) (hK1).size ?_
                intro A3 c3 w_3 ho3 hg3 _
                have hK3 : Same w5 w_3 := Keep.grown (hK1) hg3 (fun x e hl => by have := Own.block (ho_1) x e; omega)
                clear hg3
                refine hK.out _ _ (HS7.out _ (hK3)) (fun hHeld3 => ?_)
                clear hK K
                try simp only [Act.put, List.setIfInBounds_toArray]
                refine wpAnyH_ready (rs := [5]) (by kernel_rfl) (by simp) ?_
                refine AllReadyH.cons rfl (fun K hK => ?_) AllReadyH.nil
                go_simp
                have hb4 := Blk.made (w_3) 40 #[.int .i64 x.kd, .slice x.A x.ns.length x.c]
                have hk4 : Same (w_3) ((w_3).alloc (.cells #[.int .i64 x.kd, .slice x.A x.ns.length x.c] 40)) := (Keep.refl _ _).alloc _
                obtain ⟨g4, hg4⟩ : ∃ g, g = (w_3).heap.size := ⟨_, rfl⟩
                rw [← hg4] at hb4 ⊢
                have hlo4 : w5.heap.size ≤ g4 := by rw [hg4]; exact (hK3).size
                clear hg4
                generalize ((w_3).alloc (.cells #[.int .i64 x.kd, .slice x.A x.ns.length x.c] 40)) = wo4 at *
                have hK4 : Same w5 wo4 := (hK3).then hk4
                have ho_4 := Own.keep (ho3) hk4 (fun _ _ _ f => f)
                refine hK.out _ _ (HS7.out _ (hK4)) (fun hHeld4 => ?_)
                clear hK K
                try simp only [Act.put, List.setIfInBounds_toArray, List.set_cons_zero, List.set_cons_succ]
                refine wpAnyH_ready (rs := [6]) (by kernel_rfl) (by simp) ?_
                refine AllReadyH.cons rfl (fun K hK => ?_) AllReadyH.nil
                refine ESrc.step2 rfl (.tmp 38) (.tmp 40) rfl (.slice A3 p.l.length c3) (some ⟨g4, 0, none⟩) 1 1 rfl rfl w5.heap.size p.l.length (srcells p.l) (x.cells) (p.l.length + 1) (srcells p.l ++ x.cells) rfl rfl (ho_4) rfl (fun _ => ⟨_, rfl, src_blk (hb4)⟩) (src_one x) (by omega) (by unfold maxLen; omega) (hK4).size ?_
                intro A5 c5 w_5 ho5 hg5 _
                have hK5 : Same w5 w_5 := Keep.grown (hK4) hg5 (fun x e hl => by have := Own.block (ho_4) x e; omega)
                clear hg5
                refine hK.out _ _ (HS7.out _ (hK5)) (fun hHeld5 => ?_)
                clear hK K
                try simp only [Act.put, List.setIfInBounds_toArray]
                refine takeO (i := 7) (v := ?_) (by kernel_rfl) (by kernel_rfl) (by kernel_rfl) (fun c a d v w h => by cases d <;> exact h) (oi := ?_) ?_ ?_ (by assumption) ?_
                rotate_left 2
                · (simp only [List.getElem?_toArray, List.getElem?_cons_succ, List.getElem?_cons_zero]; rfl)
                · (refine Or.inl ⟨by rfl, ?_⟩; intro w hSw; (try dsimp only at hSw); go_simp; try with_reducible rfl)
                try simp only [Act.put]
                refine wpAnyH_ready (rs := [8]) (by kernel_rfl) (by simp) ?_
                refine AllReadyH.cons rfl (fun K hK => ?_) AllReadyH.nil
                have hbs6 := HB5.out _ (hK5)
                have x2 := hbs6.at_ 2
                have x3 := hbs6.free 2
                go_simp
                clear x2 x3
                have hbt6 := hbs6.put 2 (.slice A5 (p.l.length + 1) c5)
                have hkt6 := Keep.put (Keep.wide (T := fun i => i = w.heap.size) (hK5) (fun _ _ f => f.elim)) 2 (.slice A5 (p.l.length + 1) c5)
                have hot6 := Own.keep (ho5) (Keep.put (Keep.refl (fun i => i = w.heap.size) _) 2 (.slice A5 (p.l.length + 1) c5)) (fun i h1 h2 h3 => by have := hbs6.lt; have := (HB5.out _ (Keep.refl _ _)).lt; have h4 : i = w.heap.size := h3; omega)
                refine hK.out _ _ (HS72.out _ hbt6 hkt6 (by simp)) (fun hHeld6 => ?_)
                clear hK K
                try simp only [Act.put, List.setIfInBounds_toArray, List.set_cons_zero, List.set_cons_succ]
                refine wpAnyH_done (by kernel_rfl) ?_ _
                generalize ((w_5).setCell ⟨w.heap.size, 2, none⟩ (.slice A5 (p.l.length + 1) c5)) = wz at *
                exact REST g1 A3 c3 g4 A5 c5 wz ⟨hot6, hkt6, hbt6⟩
              · go_simp
                have hb7 := Blk.made (wo1) 40 #[.int .i64 x.kd, .slice x.A x.ns.length x.c]
                have hk7 : Same (wo1) ((wo1).alloc (.cells #[.int .i64 x.kd, .slice x.A x.ns.length x.c] 40)) := (Keep.refl _ _).alloc _
                obtain ⟨g7, hg7⟩ : ∃ g, g = (wo1).heap.size := ⟨_, rfl⟩
                rw [← hg7] at hb7 ⊢
                have hlo7 : w5.heap.size ≤ g7 := by rw [hg7]; exact (hK1).size
                have hne7 : g1 ≠ g7 := by have := Blk.lt (hb1); omega
                clear hg7
                generalize ((wo1).alloc (.cells #[.int .i64 x.kd, .slice x.A x.ns.length x.c] 40)) = wo7 at *
                have hK7 : Same w5 wo7 := (hK1).then hk7
                have hb_7E0 := Blk.keep (hb1) hk7 (fun f => f)
                have ho_7 := Own.keep (ho_1) hk7 (fun _ _ _ f => f)
                refine hK.out _ _ (HS7.out _ (hK7)) (fun hHeld7 => ?_)
                clear hK K
                try simp only [Act.put, List.setIfInBounds_toArray, List.set_cons_zero, List.set_cons_succ]
                refine wpAnyH_ready (rs := [3]) (by kernel_rfl) (by simp) ?_
                refine AllReadyH.cons rfl (fun K hK => ?_) AllReadyH.nil
                refine ESrc.step2 rfl (.tmp 35) (.tmp 37) rfl (.slice (some ⟨g1, 0, none⟩) 0 0) p.X p.l.length p.cx rfl rfl w5.heap.size 0 [] (srcells p.l) p.l.length (srcells p.l) (Nat.zero_add _) (List.nil_append _) (ho_7) (srcells_len p.l) (Sl.src HPX.out (hK7)) (srcs_one p.l) (by omega) (by unfold maxLen; omega) (hK7).size ?_
                intro A8 c8 w_8 ho8 hg8 _
                have hK8 : Same w5 w_8 := Keep.grown (hK7) hg8 (fun x e hl => by have := Own.block (ho_7) x e; omega)
                have hb_8 := Blk.keep (hb7) ((Keep.refl (· = g1) _).grown hg8 (fun x e _ => by simp [Value.ownBlock] at e; exact e.symm)) (Ne.symm hne7)
                clear hg8
                refine hK.out _ _ (HS7.out _ (hK8)) (fun hHeld8 => ?_)
                clear hK K
                try simp only [Act.put, List.setIfInBounds_toArray]
                refine wpAnyH_ready (rs := [6]) (by kernel_rfl) (by simp) ?_
                refine AllReadyH.cons rfl (fun K hK => ?_) AllReadyH.nil
                refine ESrc.step2 rfl (.tmp 38) (.tmp 40) rfl (.slice A8 p.l.length c8) (some ⟨g7, 0, none⟩) 1 1 rfl rfl w5.heap.size p.l.length (srcells p.l) (x.cells) (p.l.length + 1) (srcells p.l ++ x.cells) rfl rfl (ho8) rfl (fun _ => ⟨_, rfl, src_blk (hb_8)⟩) (src_one x) (by omega) (by unfold maxLen; omega) (hK8).size ?_
                intro A9 c9 w_9 ho9 hg9 _
                have hK9 : Same w5 w_9 := Keep.grown (hK8) hg9 (fun x e hl => by have := Own.block (ho8) x e; omega)
                clear hg9
                refine hK.out _ _ (HS7.out _ (hK9)) (fun hHeld9 => ?_)
                clear hK K
                try simp only [Act.put]
                refine takeO (i := 7) (v := ?_) (by kernel_rfl) (by kernel_rfl) (by kernel_rfl) (fun c a d v w h => by cases d <;> exact h) (oi := ?_) ?_ ?_ (by assumption) ?_
                rotate_left 2
                · (simp only [List.getElem?_toArray, List.getElem?_cons_succ, List.getElem?_cons_zero]; rfl)
                · (refine Or.inl ⟨by rfl, ?_⟩; intro w hSw; (try dsimp only at hSw); go_simp; try with_reducible rfl)
                try simp only [Act.put]
                refine wpAnyH_ready (rs := [8]) (by kernel_rfl) (by simp) ?_
                refine AllReadyH.cons rfl (fun K hK => ?_) AllReadyH.nil
                have hbs10 := HB5.out _ (hK9)
                have x2 := hbs10.at_ 2
                have x3 := hbs10.free 2
                go_simp
                clear x2 x3
                have hbt10 := hbs10.put 2 (.slice A9 (p.l.length + 1) c9)
                have hkt10 := Keep.put (Keep.wide (T := fun i => i = w.heap.size) (hK9) (fun _ _ f => f.elim)) 2 (.slice A9 (p.l.length + 1) c9)
                have hot10 := Own.keep (ho9) (Keep.put (Keep.refl (fun i => i = w.heap.size) _) 2 (.slice A9 (p.l.length + 1) c9)) (fun i h1 h2 h3 => by have := hbs10.lt; have := (HB5.out _ (Keep.refl _ _)).lt; have h4 : i = w.heap.size := h3; omega)
                refine hK.out _ _ (HS72.out _ hbt10 hkt10 (by simp)) (fun hHeld10 => ?_)
                clear hK K
                try simp only [Act.put, List.setIfInBounds_toArray, List.set_cons_zero, List.set_cons_succ]
                refine wpAnyH_done (by kernel_rfl) ?_ _
                generalize ((w_9).setCell ⟨w.heap.size, 2, none⟩ (.slice A9 (p.l.length + 1) c9)) = wz at *
                exact REST g1 A8 c8 g7 A9 c9 wz ⟨hot10, hkt10, hbt10⟩
            · go_simp
              have hb11 := Blk.made (wo1) 40 #[.int .i64 x.kd, .slice x.A x.ns.length x.c]
              have hk11 : Same (wo1) ((wo1).alloc (.cells #[.int .i64 x.kd, .slice x.A x.ns.length x.c] 40)) := (Keep.refl _ _).alloc _
              obtain ⟨g11, hg11⟩ : ∃ g, g = (wo1).heap.size := ⟨_, rfl⟩
              rw [← hg11] at hb11 ⊢
              have hlo11 : w5.heap.size ≤ g11 := by rw [hg11]; exact (hK1).size
              have hne11 : g1 ≠ g11 := by have := Blk.lt (hb1); omega
              clear hg11
              generalize ((wo1).alloc (.cells #[.int .i64 x.kd, .slice x.A x.ns.length x.c] 40)) = wo11 at *
              have hK11 : Same w5 wo11 := (hK1).then hk11
              have hb_11E0 := Blk.keep (hb1) hk11 (fun f => f)
              have ho_11 := Own.keep (ho_1) hk11 (fun _ _ _ f => f)
              refine hK.out _ _ (HS7.out _ (hK11)) (fun hHeld11 => ?_)
              clear hK K
              try simp only [Act.put, List.setIfInBounds_toArray, List.set_cons_zero, List.set_cons_succ]
              refine wpAnyH_ready (rs := [2]) (by kernel_rfl) (by simp) ?_
              refine AllReadyH.cons rfl (fun K hK => ?_) AllReadyH.nil
              have e12 : (wo11).cell? ⟨w.heap.size, 2, none⟩ = some (.slice p.X p.l.length p.cx) := (HB5.out _ (hK11)).at_ 2
              go_simp
              clear e12
              refine hK.out _ _ (HS7.out _ (hK11)) (fun hHeld12 => ?_)
              clear hK K
              try simp only [Act.put, List.setIfInBounds_toArray, List.set_cons_zero, List.set_cons_succ]
              refine wpAnyH_ready (rs := [3]) (by kernel_rfl) (by simp) ?_
              refine AllReadyH.cons rfl (fun K hK => ?_) AllReadyH.nil
              refine ESrc.step2 rfl (.tmp 35) (.tmp 37) rfl (.slice (some ⟨g1, 0, none⟩) 0 0) p.X p.l.length p.cx rfl rfl w5.heap.size 0 [] (srcells p.l) p.l.length (srcells p.l) (Nat.zero_add _) (List.nil_append _) (ho_11) (srcells_len p.l) (Sl.src HPX.out (hK11)) (srcs_one p.l) (by omega) (by unfold maxLen; omega) (hK11).size ?_
              intro A13 c13 w_13 ho13 hg13 _
              have hK13 : Same w5 w_13 := Keep.grown (hK11) hg13 (fun x e hl => by have := Own.block (ho_11) x e; omega)
              have hb_13 := Blk.keep (hb11) ((Keep.refl (· = g1) _).grown hg13 (fun x e _ => by simp [Value.ownBlock] at e; exact e.symm)) (Ne.symm hne11)
              clear hg13
              refine hK.out _ _ (HS7.out _ (hK13)) (fun hHeld13 => ?_)
              clear hK K
              try simp only [Act.put, List.setIfInBounds_toArray]
              refine wpAnyH_ready (rs := [6]) (by kernel_rfl) (by simp) ?_
              refine AllReadyH.cons rfl (fun K hK => ?_) AllReadyH.nil
              refine ESrc.step2 rfl (.tmp 38) (.tmp 40) rfl (.slice A13 p.l.length c13) (some ⟨g11, 0, none⟩) 1 1 rfl rfl w5.heap.size p.l.length (srcells p.l) (x.cells) (p.l.length + 1) (srcells p.l ++ x.cells) rfl rfl (ho13) rfl (fun _ => ⟨_, rfl, src_blk (hb_13)⟩) (src_one x) (by omega) (by unfold maxLen; omega) (hK13).size ?_
              intro A14 c14 w_14 ho14 hg14 _
              have hK14 : Same w5 w_14 := Keep.grown (hK13) hg14 (fun x e hl => by have := Own.block (ho13) x e; omega)
              clear hg14
              refine hK.out _ _ (HS7.out _ (hK14)) (fun hHeld14 => ?_)
              clear hK K
              try simp only [Act.put]
              refine takeO (i := 7) (v := ?_) (by kernel_rfl) (by kernel_rfl) (by kernel_rfl) (fun c a d v w h => by cases d <;> exact h) (oi := ?_) ?_ ?_ (by assumption) ?_
              rotate_left 2
              · (simp only [List.getElem?_toArray, List.getElem?_cons_succ, List.getElem?_cons_zero]; rfl)
              · (refine Or.inl ⟨by rfl, ?_⟩; intro w hSw; (try dsimp only at hSw); go_simp; try with_reducible rfl)
              try simp only [Act.put]
              refine wpAnyH_ready (rs := [8]) (by kernel_rfl) (by simp) ?_
              refine AllReadyH.cons rfl (fun K hK => ?_) AllReadyH.nil
              have hbs15 := HB5.out _ (hK14)
              have x2 := hbs15.at_ 2
              have x3 := hbs15.free 2
              go_simp
              clear x2 x3
              have hbt15 := hbs15.put 2 (.slice A14 (p.l.length + 1) c14)
              have hkt15 := Keep.put (Keep.wide (T := fun i => i = w.heap.size) (hK14) (fun _ _ f => f.elim)) 2 (.slice A14 (p.l.length + 1) c14)
              have hot15 := Own.keep (ho14) (Keep.put (Keep.refl (fun i => i = w.heap.size) _) 2 (.slice A14 (p.l.length + 1) c14)) (fun i h1 h2 h3 => by have := hbs15.lt; have := (HB5.out _ (Keep.refl _ _)).lt; have h4 : i = w.heap.size := h3; omega)
              refine hK.out _ _ (HS72.out _ hbt15 hkt15 (by simp)) (fun hHeld15 => ?_)
              clear hK K
              try simp only [Act.put, List.setIfInBounds_toArray, List.set_cons_zero, List.set_cons_succ]
              refine wpAnyH_done (by kernel_rfl) ?_ _
              generalize ((w_14).setCell ⟨w.heap.size, 2, none⟩ (.slice A14 (p.l.length + 1) c14)) = wz at *
              exact REST g1 A13 c13 g11 A14 c14 wz ⟨hot15, hkt15, hbt15⟩
          · have e16 : (wd).cell? ⟨w.heap.size, 2, none⟩ = some (.slice p.X p.l.length p.cx) := (HB5.out _ (hkd)).at_ 2
            go_simp
            clear e16
            refine hK.out _ _ (HS7.out _ (hkd)) (fun hHeld16 => ?_)
            clear hK K
            try simp only [Act.put, List.setIfInBounds_toArray, List.set_cons_zero, List.set_cons_succ]
            refine wpAnyH_ready (rs := [0, 5]) (by kernel_rfl) (by simp) ?_
            refine AllReadyH.cons rfl (fun K hK => ?_) (AllReadyH.cons rfl (fun K hK => ?_) AllReadyH.nil)
            · go_simp
              have hb17 := Blk.made (wd) 40 #[]
              have hk17 : Same (wd) ((wd).alloc (.cells #[] 40)) := (Keep.refl _ _).alloc _
              have ho17 := Own.lit0 (wd) 40 2
              obtain ⟨g17, hg17⟩ : ∃ g, g = (wd).heap.size := ⟨_, rfl⟩
              rw [← hg17] at hb17 ho17 ⊢
              have hlo17 : w5.heap.size ≤ g17 := by rw [hg17]; exact (hkd).size
              clear hg17
              generalize ((wd).alloc (.cells #[] 40)) = wo17 at *
              have hK17 : Same w5 wo17 := (hkd).then hk17
              have ho_17 := Own.rebase (base' := w5.heap.size) ho17 (fun x e => by simp [Value.ownBlock] at e; omega)
              refine hK.out _ _ (HS7.out _ (hK17)) (fun hHeld17 => ?_)
              clear hK K
              try simp only [Act.put, List.setIfInBounds_toArray, List.set_cons_zero, List.set_cons_succ]
              refine wpAnyH_ready (rs := [3, 5]) (by kernel_rfl) (by simp) ?_
              refine AllReadyH.cons rfl (fun K hK => ?_) (AllReadyH.cons rfl (fun K hK => ?_) AllReadyH.nil)
              · refine ESrc.step2 rfl (.tmp 35) (.tmp 37) rfl (.slice (some ⟨g17, 0, none⟩) 0 0) p.X p.l.length p.cx rfl rfl w5.heap.size 0 [] (srcells p.l) p.l.length (srcells p.l) (Nat.zero_add _) (List.nil_append _) (ho_17) (srcells_len p.l) (Sl.src HPX.out (hK17)) (srcs_one p.l) (by omega) (by unfold maxLen; omega) (hK17).size ?_
                intro A18 c18 w_18 ho18 hg18 _
                have hK18 : Same w5 w_18 := Keep.grown (hK17) hg18 (fun x e hl => by have := Own.block (ho_17) x e; omega)
                clear hg18
                refine hK.out _ _ (HS7.out _ (hK18)) (fun hHeld18 => ?_)
                clear hK K
                try simp only [Act.put, List.setIfInBounds_toArray]
                refine wpAnyH_ready (rs := [5]) (by kernel_rfl) (by simp) ?_
                refine AllReadyH.cons rfl (fun K hK => ?_) AllReadyH.nil
                go_simp
                have hb19 := Blk.made (w_18) 40 #[.int .i64 x.kd, .slice x.A x.ns.length x.c]
                have hk19 : Same (w_18) ((w_18).alloc (.cells #[.int .i64 x.kd, .slice x.A x.ns.length x.c] 40)) := (Keep.refl _ _).alloc _
                obtain ⟨g19, hg19⟩ : ∃ g, g = (w_18).heap.size := ⟨_, rfl⟩
                rw [← hg19] at hb19 ⊢
                have hlo19 : w5.heap.size ≤ g19 := by rw [hg19]; exact (hK18).size
                clear hg19
                generalize ((w_18).alloc (.cells #[.int .i64 x.kd, .slice x.A x.ns.length x.c] 40)) = wo19 at *
                have hK19 : Same w5 wo19 := (hK18).then hk19
                have ho_19 := Own.keep (ho18) hk19 (fun _ _ _ f => f)
                refine hK.out _ _ (HS7.out _ (hK19)) (fun hHeld19 => ?_)
                clear hK K
                try simp only [Act.put, List.setIfInBounds_toArray, List.set_cons_zero, List.set_cons_succ]
                refine wpAnyH_ready (rs := [6]) (by kernel_rfl) (by simp) ?_
                refine AllReadyH.cons rfl (fun K hK => ?_) AllReadyH.nil
                refine ESrc.step2 rfl (.tmp 38) (.tmp 40) rfl (.slice A18 p.l.length c18) (some ⟨g19, 0, none⟩) 1 1 rfl rfl w5.heap.size p.l.length (srcells p.l) (x.cells) (p.l.length + 1) (srcells p.l ++ x.cells) rfl rfl (ho_19) rfl (fun _ => ⟨_, rfl, src_blk (hb19)⟩) (src_one x) (by omega) (by unfold maxLen; omega) (hK19).size ?_
                intro A20 c20 w_20 ho20 hg20 _
                have hK20 : Same w5 w_20 := Keep.grown (hK19) hg20 (fun x e hl => by have := Own.block (ho_19) x e; omega)
                clear hg20
                refine hK.out _ _ (HS7.out _ (hK20)) (fun hHeld20 => ?_)
                clear hK K
                try simp only [Act.put, List.setIfInBounds_toArray]
                refine takeO (i := 7) (v := ?_) (by kernel_rfl) (by kernel_rfl) (by kernel_rfl) (fun c a d v w h => by cases d <;> exact h) (oi := ?_) ?_ ?_ (by assumption) ?_
                rotate_left 2
                · (simp only [List.getElem?_toArray, List.getElem?_cons_succ, List.getElem?_cons_zero]; rfl)
                · (refine Or.inl ⟨by rfl, ?_⟩; intro w hSw; (try dsimp only at hSw); go_simp; try with_reducible rfl)
                try simp only [Act.put]
                refine wpAnyH_ready (rs := [8]) (by kernel_rfl) (by simp) ?_
                refine AllReadyH.cons rfl (fun K hK => ?_) AllReadyH.nil
                have hbs21 := HB5.out _ (hK20)
                have x2 := hbs21.at_ 2
                have x3 := hbs21.free 2
                go_simp
                clear x2 x3
                have hbt21 := hbs21.put 2 (.slice A20 (p.l.length + 1) c20)
                have hkt21 := Keep.put (Keep.wide (T := fun i => i = w.heap.size) (hK20) (fun _ _ f => f.elim)) 2 (.slice A20 (p.l.length + 1) c20)
                have hot21 := Own.keep (ho20) (Keep.put (Keep.refl (fun i => i = w.heap.size) _) 2 (.slice A20 (p.l.length + 1) c20)) (fun i h1 h2 h3 => by have := hbs21.lt; have := (HB5.out _ (Keep.refl _ _)).lt; have h4 : i = w.heap.size := h3; omega)
                refine hK.out _ _ (HS72.out _ hbt21 hkt21 (by simp)) (fun hHeld21 => ?_)
                clear hK K
                try simp only [Act.put, List.setIfInBounds_toArray, List.set_cons_zero, List.set_cons_succ]
                refine wpAnyH_done (by kernel_rfl) ?_ _
                generalize ((w_20).setCell ⟨w.heap.size, 2, none⟩ (.slice A20 (p.l.length + 1) c20)) = wz at *
                exact REST g17 A18 c18 g19 A20 c20 wz ⟨hot21, hkt21, hbt21⟩
              · go_simp
                have hb22 := Blk.made (wo17) 40 #[.int .i64 x.kd, .slice x.A x.ns.length x.c]
                have hk22 : Same (wo17) ((wo17).alloc (.cells #[.int .i64 x.kd, .slice x.A x.ns.length x.c] 40)) := (Keep.refl _ _).alloc _
                obtain ⟨g22, hg22⟩ : ∃ g, g = (wo17).heap.size := ⟨_, rfl⟩
                rw [← hg22] at hb22 ⊢
                have hlo22 : w5.heap.size ≤ g22 := by rw [hg22]; exact (hK17).size
                have hne22 : g17 ≠ g22 := by have := Blk.lt (hb17); omega
                clear hg22
                generalize ((wo17).alloc (.cells #[.int .i64 x.kd, .slice x.A x.ns.length x.c] 40)) = wo22 at *
                have hK22 : Same w5 wo22 := (hK17).then hk22
                have hb_22E0 := Blk.keep (hb17) hk22 (fun f => f)
                have ho_22 := Own.keep (ho_17) hk22 (fun _ _ _ f => f)
                refine hK.out _ _ (HS7.out _ (hK22)) (fun hHeld22 => ?_)
                clear hK K
                try simp only [Act.put, List.setIfInBounds_toArray, List.set_cons_zero, List.set_cons_succ]
                refine wpAnyH_ready (rs := [3]) (by kernel_rfl) (by simp) ?_
                refine AllReadyH.cons rfl (fun K hK => ?_) AllReadyH.nil
                refine ESrc.step2 rfl (.tmp 35) (.tmp 37) rfl (.slice (some ⟨g17, 0, none⟩) 0 0) p.X p.l.length p.cx rfl rfl w5.heap.size 0 [] (srcells p.l) p.l.length (srcells p.l) (Nat.zero_add _) (List.nil_append _) (ho_22) (srcells_len p.l) (Sl.src HPX.out (hK22)) (srcs_one p.l) (by omega) (by unfold maxLen; omega) (hK22).size ?_
                intro A23 c23 w_23 ho23 hg23 _
                have hK23 : Same w5 w_23 := Keep.grown (hK22) hg23 (fun x e hl => by have := Own.block (ho_22) x e; omega)
                have hb_23 := Blk.keep (hb22) ((Keep.refl (· = g17) _).grown hg23 (fun x e _ => by simp [Value.ownBlock] at e; exact e.symm)) (Ne.symm hne22)
                clear hg23
                refine hK.out _ _ (HS7.out _ (hK23)) (fun hHeld23 => ?_)
                clear hK K
                try simp only [Act.put, List.setIfInBounds_toArray]
                refine wpAnyH_ready (rs := [6]) (by kernel_rfl) (by simp) ?_
                refine AllReadyH.cons rfl (fun K hK => ?_) AllReadyH.nil
                refine ESrc.step2 rfl (.tmp 38) (.tmp 40) rfl (.slice A23 p.l.length c23) (some ⟨g22, 0, none⟩) 1 1 rfl rfl w5.heap.size p.l.length (srcells p.l) (x.cells) (p.l.length + 1) (srcells p.l ++ x.cells) rfl rfl (ho23) rfl (fun _ => ⟨_, rfl, src_blk (hb_23)⟩) (src_one x) (by omega) (by unfold maxLen; omega) (hK23).size ?_
                intro A24 c24 w_24 ho24 hg24 _
                have hK24 : Same w5 w_24 := Keep.grown (hK23) hg24 (fun x e hl => by have := Own.block (ho23) x e; omega)
                clear hg24
                refine hK.out _ _ (HS7.out _ (hK24)) (fun hHeld24 => ?_)
                clear hK K
                try simp only [Act.put]
                refine takeO (i := 7) (v := ?_) (by kernel_rfl) (by kernel_rfl) (by kernel_rfl) (fun c a d v w h => by cases d <;> exact h) (oi := ?_) ?_ ?_ (by assumption) ?_
                rotate_left 2
                · (simp only [List.getElem?_toArray, List.getElem?_cons_succ, List.getElem?_cons_zero]; rfl)
                · (refine Or.inl ⟨by rfl, ?_⟩; intro w hSw; (try dsimp only at hSw); go_simp; try with_reducible rfl)
                try simp only [Act.put]
                refine wpAnyH_ready (rs := [8]) (by kernel_rfl) (by simp) ?_
                refine AllReadyH.cons rfl (fun K hK => ?_) AllReadyH.nil
                have hbs25 := HB5.out _ (hK24)
                have x2 := hbs25.at_ 2
                have x3 := hbs25.free 2
                go_simp
                clear x2 x3
                have hbt25 := hbs25.put 2 (.slice A24 (p.l.length + 1) c24)
                have hkt25 := Keep.put (Keep.wide (T := fun i => i = w.heap.size) (hK24) (fun _ _ f => f.elim)) 2 (.slice A24 (p.l.length + 1) c24)
                have hot25 := Own.keep (ho24) (Keep.put (Keep.refl (fun i => i = w.heap.size) _) 2 (.slice A24 (p.l.length + 1) c24)) (fun i h1 h2 h3 => by have := hbs25.lt; have := (HB5.out _ (Keep.refl _ _)).lt; have h4 : i = w.heap.size := h3; omega)
                refine hK.out _ _ (HS72.out _ hbt25 hkt25 (by simp)) (fun hHeld25 => ?_)
                clear hK K
                try simp only [Act.put, List.setIfInBounds_toArray, List.set_cons_zero, List.set_cons_succ]
                refine wpAnyH_done (by kernel_rfl) ?_ _
                generalize ((w_24).setCell ⟨w.heap.size, 2, none⟩ (.slice A24 (p.l.length + 1) c24)) = wz at *
                exact REST g17 A23 c23 g22 A24 c24 wz ⟨hot25, hkt25, hbt25⟩
            · go_simp
              have hb26 := Blk.made (wd) 40 #[.int .i64 x.kd, .slice x.A x.ns.length x.c]
              have hk26 : Same (wd) ((wd).alloc (.cells #[.int .i64 x.kd, .slice x.A x.ns.length x.c] 40)) := (Keep.refl _ _).alloc _
              obtain ⟨g26, hg26⟩ : ∃ g, g = (wd).heap.size := ⟨_, rfl⟩
              rw [← hg26] at hb26 ⊢
              have hlo26 : w5.heap.size ≤ g26 := by rw [hg26]; exact (hkd).size
              clear hg26
              generalize ((wd).alloc (.cells #[.int .i64 x.kd, .slice x.A x.ns.length x.c] 40)) = wo26 at *
              have hK26 : Same w5 wo26 := (hkd).then hk26
              refine hK.out _ _ (HS7.out _ (hK26)) (fun hHeld26 => ?_)
              clear hK K
              try simp only [Act.put, List.setIfInBounds_toArray, List.set_cons_zero, List.set_cons_succ]
              refine wpAnyH_ready (rs := [0]) (by kernel_rfl) (by simp) ?_
              refine AllReadyH.cons rfl (fun K hK => ?_) AllReadyH.nil
              go_simp
              have hb27 := Blk.made (wo26) 40 #[]
              have hk27 : Same (wo26) ((wo26).alloc (.cells #[] 40)) := (Keep.refl _ _).alloc _
              have ho27 := Own.lit0 (wo26) 40 2
              obtain ⟨g27, hg27⟩ : ∃ g, g = (wo26).heap.size := ⟨_, rfl⟩
              rw [← hg27] at hb27 ho27 ⊢
              have hlo27 : w5.heap.size ≤ g27 := by rw [hg27]; exact (hK26).size
              have hne27 : g26 ≠ g27 := by have := Blk.lt (hb26); omega
              clear hg27
              generalize ((wo26).alloc (.cells #[] 40)) = wo27 at *
              have hK27 : Same w5 wo27 := (hK26).then hk27
              have hb_27B := Blk.keep (hb26) hk27 (fun f => f)
              have ho_27 := Own.rebase (base' := w5.heap.size) ho27 (fun x e => by simp [Value.ownBlock] at e; omega)
              refine hK.out _ _ (HS7.out _ (hK27)) (fun hHeld27 => ?_)
              clear hK K
              try simp only [Act.put, List.setIfInBounds_toArray, List.set_cons_zero, List.set_cons_succ]
              refine wpAnyH_ready (rs := [3]) (by kernel_rfl) (by simp) ?_
              refine AllReadyH.cons rfl (fun K hK => ?_) AllReadyH.nil
              refine ESrc.step2 rfl (.tmp 35) (.tmp 37) rfl (.slice (some ⟨g27, 0, none⟩) 0 0) p.X p.l.length p.cx rfl rfl w5.heap.size 0 [] (srcells p.l) p.l.length (srcells p.l) (Nat.zero_add _) (List.nil_append _) (ho_27) (srcells_len p.l) (Sl.src HPX.out (hK27)) (srcs_one p.l) (by omega) (by unfold maxLen; omega) (hK27).size ?_
              intro A28 c28 w_28 ho28 hg28 _
              have hK28 : Same w5 w_28 := Keep.grown (hK27) hg28 (fun x e hl => by have := Own.block (ho_27) x e; omega)
              have hb_28 := Blk.keep (hb_27B) ((Keep.refl (· = g27) _).grown hg28 (fun x e _ => by simp [Value.ownBlock] at e; exact e.symm)) hne27
              clear hg28
              refine hK.out _ _ (HS7.out _ (hK28)) (fun hHeld28 => ?_)
              clear hK K
              try simp only [Act.put, List.setIfInBounds_toArray]
              refine wpAnyH_ready (rs := [6]) (by kernel_rfl) (by simp) ?_
              refine AllReadyH.cons rfl (fun K hK => ?_) AllReadyH.nil
              refine ESrc.step2 rfl (.tmp 38) (.tmp 40) rfl (.slice A28 p.l.length c28) (some ⟨g26, 0, none⟩) 1 1 rfl rfl w5.heap.size p.l.length (srcells p.l) (x.cells) (p.l.length + 1) (srcells p.l ++ x.cells) rfl rfl (ho28) rfl (fun _ => ⟨_, rfl, src_blk (hb_28)⟩) (src_one x) (by omega) (by unfold maxLen; omega) (hK28).size ?_
              intro A29 c29 w_29 ho29 hg29 _
              have hK29 : Same w5 w_29 := Keep.grown (hK28) hg29 (fun x e hl => by have := Own.block (ho28) x e; omega)
              clear hg29
              refine hK.out _ _ (HS7.out _ (hK29)) (fun hHeld29 => ?_)
              clear hK K
              try simp only [Act.put]
              refine takeO (i := 7) (v := ?_) (by kernel_rfl) (by kernel_rfl) (by kernel_rfl) (fun c a d v w h => by cases d <;> exact h) (oi := ?_) ?_ ?_ (by assumption) ?_
              rotate_left 2
              · (simp only [List.getElem?_toArray, List.getElem?_cons_succ, List.getElem?_cons_zero]; rfl)
              · (refine Or.inl ⟨by rfl, ?_⟩; intro w hSw; (try dsimp only at hSw); go_simp; try with_reducible rfl)
              try simp only [Act.put]
              refine wpAnyH_ready (rs := [8]) (by kernel_rfl) (by simp) ?_
              refine AllReadyH.cons rfl (fun K hK => ?_) AllReadyH.nil
              have hbs30 := HB5.out _ (hK29)
              have x2 := hbs30.at_ 2
              have x3 := hbs30.free 2
              go_simp
              clear x2 x3
              have hbt30 := hbs30.put 2 (.slice A29 (p.l.length + 1) c29)
              have hkt30 := Keep.put (Keep.wide (T := fun i => i = w.heap.size) (hK29) (fun _ _ f => f.elim)) 2 (.slice A29 (p.l.length + 1) c29)
              have hot30 := Own.keep (ho29) (Keep.put (Keep.refl (fun i => i = w.heap.size) _) 2 (.slice A29 (p.l.length + 1) c29)) (fun i h1 h2 h3 => by have := hbs30.lt; have := (HB5.out _ (Keep.refl _ _)).lt; have h4 : i = w.heap.size := h3; omega)
              refine hK.out _ _ (HS72.out _ hbt30 hkt30 (by simp)) (fun hHeld30 => ?_)
              clear hK K
              try simp only [Act.put, List.setIfInBounds_toArray, List.set_cons_zero, List.set_cons_succ]
              refine wpAnyH_done (by kernel_rfl) ?_ _
              generalize ((w_29).setCell ⟨w.heap.size, 2, none⟩ (.slice A29 (p.l.length + 1) c29)) = wz at *
              exact REST g27 A28 c28 g26 A29 c29 wz ⟨hot30, hkt30, hbt30⟩
          · go_simp
            have hb31 := Blk.made (wd) 40 #[.int .i64 x.kd, .slice x.A x.ns.length x.c]
            have hk31 : Same (wd) ((wd).alloc (.cells #[.int .i64 x.kd, .slice x.A x.ns.length x.c] 40)) := (Keep.refl _ _).alloc _
            obtain ⟨g31, hg31⟩ : ∃ g, g = (wd).heap.size := ⟨_, rfl⟩
            rw [← hg31] at hb31 ⊢
            have hlo31 : w5.heap.size ≤ g31 := by rw [hg31]; exact (hkd).size
            clear hg31
            generalize ((wd).alloc (.cells #[.int .i64 x.kd, .slice x.A x.ns.length x.c] 40)) = wo31 at *
            have hK31 : Same w5 wo31 := (hkd).then hk31
            refine hK.out _ _ (HS7.out _ (hK31)) (fun hHeld31 => ?_)
            clear hK K
            try simp only [Act.put, List.setIfInBounds_toArray, List.set_cons_zero, List.set_cons_succ]
            refine wpAnyH_ready (rs := [0, 2]) (by kernel_rfl) (by simp) ?_
            refine AllReadyH.cons rfl (fun K hK => ?_) (AllReadyH.cons rfl (fun K hK => ?_) AllReadyH.nil)
            · go_simp
              have hb32 := Blk.made (wo31) 40 #[]
              have hk32 : Same (wo31) ((wo31).alloc (.cells #[] 40)) := (Keep.refl _ _).alloc _
              have ho32 := Own.lit0 (wo31) 40 2
              obtain ⟨g32, hg32⟩ : ∃ g, g = (wo31).heap.size := ⟨_, rfl⟩
              rw [← hg32] at hb32 ho32 ⊢
              have hlo32 : w5.heap.size ≤ g32 := by rw [hg32]; exact (hK31).size
              have hne32 : g31 ≠ g32 := by have := Blk.lt (hb31); omega
              clear hg32
              generalize ((wo31).alloc (.cells #[] 40)) = wo32 at *
              have hK32 : Same w5 wo32 := (hK31).then hk32
              have hb_32B := Blk.keep (hb31) hk32 (fun f => f)
              have ho_32 := Own.rebase (base' := w5.heap.size) ho32 (fun x e => by simp [Value.ownBlock] at e; omega)
              refine hK.out _ _ (HS7.out _ (hK32)) (fun hHeld32 => ?_)
              clear hK K
              try simp only [Act.put, List.setIfInBounds_toArray, List.set_cons_zero, List.set_cons_succ]
              refine wpAnyH_ready (rs := [2]) (by kernel_rfl) (by simp) ?_
              refine AllReadyH.cons rfl (fun K hK => ?_) AllReadyH.nil
              have e33 : (wo32).cell? ⟨w.heap.size, 2, none⟩ = some (.slice p.X p.l.length p.cx) := (HB5.out _ (hK32)).at_ 2
              go_simp
              clear e33
              refine hK.out _ _ (HS7.out _ (hK32)) (fun hHeld33 => ?_)
              clear hK K
              try simp only [Act.put, List.setIfInBounds_toArray, List.set_cons_zero, List.set_cons_succ]
              refine wpAnyH_ready (rs := [3]) (by kernel_rfl) (by simp) ?_
              refine AllReadyH.cons rfl (fun K hK => ?_) AllReadyH.nil
              refine ESrc.step2 rfl (.tmp 35) (.tmp 37) rfl (.slice (some ⟨g32, 0, none⟩) 0 0) p.X p.l.length p.cx rfl rfl w5.heap.size 0 [] (srcells p.l) p.l.length (srcells p.l) (Nat.zero_add _) (List.nil_append _) (ho_32) (srcells_len p.l) (Sl.src HPX.out (hK32)) (srcs_one p.l) (by omega) (by unfold maxLen; omega) (hK32).size ?_
              intro A34 c34 w_34 ho34 hg34 _
              have hK34 : Same w5 w_34 := Keep.grown (hK32) hg34 (fun x e hl => by have := Own.block (ho_32) x e; omega)
              have hb_34 := Blk.keep (hb_32B) ((Keep.refl (· = g32) _).grown hg34 (fun x e _ => by simp [Value.ownBlock] at e; exact e.symm)) hne32
              clear hg34
              refine hK.out _ _ (HS7.out _ (hK34)) (fun hHeld34 => ?_)
              clear hK K
              try simp only [Act.put, List.setIfInBounds_toArray]
              refine wpAnyH_ready (rs := [6]) (by kernel_rfl) (by simp) ?_
              refine AllReadyH.cons rfl (fun K hK => ?_) AllReadyH.nil
              refine ESrc.step2 rfl (.tmp 38) (.tmp 40) rfl (.slice A34 p.l.length c34) (some ⟨g31, 0, none⟩) 1 1 rfl rfl w5.heap.size p.l.length (srcells p.l) (x.cells) (p.l.length + 1) (srcells p.l ++ x.cells) rfl rfl (ho34) rfl (fun _ => ⟨_, rfl, src_blk (hb_34)⟩) (src_one x) (by omega) (by unfold maxLen; omega) (hK34).size ?_
              intro A35 c35 w_35 ho35 hg35 _
              have hK35 : Same w5 w_35 := Keep.grown (hK34) hg35 (fun x e hl => by have := Own.block (ho34) x e; omega)
              clear hg35
              refine hK.out _ _ (HS7.out _ (hK35)) (fun hHeld35 => ?_)
              clear hK K
              try simp only [Act.put]
              refine takeO (i := 7) (v := ?_) (by kernel_rfl) (by kernel_rfl) (by kernel_rfl) (fun c a d v w h => by cases d <;> exact h) (oi := ?_) ?_ ?_ (by assumption) ?_
              rotate_left 2
              · (simp only [List.getElem?_toArray, List.getElem?_cons_succ, List.getElem?_cons_zero]; rfl)
              · (refine Or.inl ⟨by rfl, ?_⟩; intro w hSw; (try dsimp only at hSw); go_simp; try with_reducible rfl)
              try simp only [Act.put]
              refine wpAnyH_ready (rs := [8]) (by kernel_rfl) (by simp) ?_
              refine AllReadyH.cons rfl (fun K hK => ?_) AllReadyH.nil
              have hbs36 := HB5.out _ (hK35)
              have x2 := hbs36.at_ 2
              have x3 := hbs36.free 2
              go_simp
              clear x2 x3
              have hbt36 := hbs36.put 2 (.slice A35 (p.l.length + 1) c35)
              have hkt36 := Keep.put (Keep.wide (T := fun i => i = w.heap.size) (hK35) (fun _ _ f => f.elim)) 2 (.slice A35 (p.l.length + 1) c35)
              have hot36 := Own.keep (ho35) (Keep.put (Keep.refl (fun i => i = w.heap.size) _) 2 (.slice A35 (p.l.length + 1) c35)) (fun i h1 h2 h3 => by have := hbs36.lt; have := (HB5.out _ (Keep.refl _ _)).lt; have h4 : i = w.heap.size := h3; omega)
              refine hK.out _ _ (HS72.out _ hbt36 hkt36 (by simp)) (fun hHeld36 => ?_)
              clear hK K
              try simp only [Act.put, List.setIfInBounds_toArray, List.set_cons_zero, List.set_cons_succ]
              refine wpAnyH_done (by kernel_rfl) ?_ _
              generalize ((w_35).setCell ⟨w.heap.size, 2, none⟩ (.slice A35 (p.l.length + 1) c35)) = wz at *
              exact REST g32 A34 c34 g31 A35 c35 wz ⟨hot36, hkt36, hbt36⟩
            · have e37 : (wo31).cell? ⟨w.heap.size, 2, none⟩ = some (.slice p.X p.l.length p.cx) := (HB5.out _ (hK31)).at_ 2
              go_simp
              clear e37
              refine hK.out _ _ (HS7.out _ (hK31)) (fun hHeld37 => ?_)
              clear hK K
              try simp only [Act.put, List.setIfInBounds_toArray, List.set_cons_zero, List.set_cons_succ]
              refine wpAnyH_ready (rs := [0]) (by kernel_rfl) (by simp) ?_
              refine AllReadyH.cons rfl (fun K hK => ?_) AllReadyH.nil
              go_simp
              have hb38 := Blk.made (wo31) 40 #[]
              have hk38 : Same (wo31) ((wo31).alloc (.cells #[] 40)) := (Keep.refl _ _).alloc _
              have ho38 := Own.lit0 (wo31) 40 2
              obtain ⟨g38, hg38⟩ : ∃ g, g = (wo31).heap.size := ⟨_, rfl⟩
              rw [← hg38] at hb38 ho38 ⊢
              have hlo38 : w5.heap.size ≤ g38 := by rw [hg38]; exact (hK31).size
              have hne38 : g31 ≠ g38 := by have := Blk.lt (hb31); omega
              clear hg38
              generalize ((wo31).alloc (.cells #[] 40)) = wo38 at *
              have hK38 : Same w5 wo38 := (hK31).then hk38
              have hb_38B := Blk.keep (hb31) hk38 (fun f => f)
              have ho_38 := Own.rebase (base' := w5.heap.size) ho38 (fun x e => by simp [Value.ownBlock] at e; omega)
              refine hK.out _ _ (HS7.out _ (hK38)) (fun hHeld38 => ?_)
              clear hK K
              try simp only [Act.put, List.setIfInBounds_toArray, List.set_cons_zero, List.set_cons_succ]
              refine wpAnyH_ready (rs := [3]) (by kernel_rfl) (by simp) ?_
              refine AllReadyH.cons rfl (fun K hK => ?_) AllReadyH.nil
              refine ESrc.step2 rfl (.tmp 35) (.tmp 37) rfl (.slice (some ⟨g38, 0, none⟩) 0 0) p.X p.l.length p.cx rfl rfl w5.heap.size 0 [] (srcells p.l) p.l.length (srcells p.l) (Nat.zero_add _) (List.nil_append _) (ho_38) (srcells_len p.l) (Sl.src HPX.out (hK38)) (srcs_one p.l) (by omega) (by unfold maxLen; omega) (hK38).size ?_
              intro A39 c39 w_39 ho39 hg39 _
              have hK39 : Same w5 w_39 := Keep.grown (hK38) hg39 (fun x e hl => by have := Own.block (ho_38) x e; omega)
              have hb_39 := Blk.keep (hb_38B) ((Keep.refl (· = g38) _).grown hg39 (fun x e _ => by simp [Value.ownBlock] at e; exact e.symm)) hne38
              clear hg39
              refine hK.out _ _ (HS7.out _ (hK39)) (fun hHeld39 => ?_)
              clear hK K
              try simp only [Act.put, List.setIfInBounds_toArray]
              refine wpAnyH_ready (rs := [6]) (by kernel_rfl) (by simp) ?_
              refine AllReadyH.cons rfl (fun K hK => ?_) AllReadyH.nil
              refine ESrc.step2 rfl (.tmp 38) (.tmp 40) rfl (.slice A39 p.l.length c39) (some ⟨g31, 0, none⟩) 1 1 rfl rfl w5.heap.size p.l.length (srcells p.l) (x.cells) (p.l.length + 1) (srcells p.l ++ x.cells) rfl rfl (ho39) rfl (fun _ => ⟨_, rfl, src_blk (hb_39)⟩) (src_one x) (by omega) (by unfold maxLen; omega) (hK39).size ?_
              intro A40 c40 w_40 ho40 hg40 _
              have hK40 : Same w5 w_40 := Keep.grown (hK39) hg40 (fun x e hl => by have := Own.block (ho39) x e; omega)
              clear hg40
              refine hK.out _ _ (HS7.out _ (hK40)) (fun hHeld40 => ?_)
              clear hK K
              try simp only [Act.put]
              refine takeO (i := 7) (v := ?_) (by kernel_rfl) (by kernel_rfl) (by kernel_rfl) (fun c a d v w h => by cases d <;> exact h) (oi := ?_) ?_ ?_ (by assumption) ?_
              rotate_left 2
              · (simp only [List.getElem?_toArray, List.getElem?_cons_succ, List.getElem?_cons_zero]; rfl)
              · (refine Or.inl ⟨by rfl, ?_⟩; intro w hSw; (try dsimp only at hSw); go_simp; try with_reducible rfl)
              try simp only [Act.put]
              refine wpAnyH_ready (rs := [8]) (by kernel_rfl) (by simp) ?_
              refine AllReadyH.cons rfl (fun K hK => ?_) AllReadyH.nil
              have hbs41 := HB5.out _ (hK40)
              have x2 := hbs41.at_ 2
              have x3 := hbs41.free 2
              go_simp
              clear x2 x3
              have hbt41 := hbs41.put 2 (.slice A40 (p.l.length + 1) c40)
              have hkt41 := Keep.put (Keep.wide (T := fun i => i = w.heap.size) (hK40) (fun _ _ f => f.elim)) 2 (.slice A40 (p.l.length + 1) c40)
              have hot41 := Own.keep (ho40) (Keep.put (Keep.refl (fun i => i = w.heap.size) _) 2 (.slice A40 (p.l.length + 1) c40)) (fun i h1 h2 h3 => by have := hbs41.lt; have := (HB5.out _ (Keep.refl _ _)).lt; have h4 : i = w.heap.size := h3; omega)
              refine hK.out _ _ (HS72.out _ hbt41 hkt41 (by simp)) (fun hHeld41 => ?_)
              clear hK K
              try simp only [Act.put, List.setIfInBounds_toArray, List.set_cons_zero, List.set_cons_succ]
              refine wpAnyH_done (by kernel_rfl) ?_ _
              generalize ((w_40).setCell ⟨w.heap.size, 2, none⟩ (.slice A40 (p.l.length + 1) c40)) = wz at *
              exact REST g38 A39 c39 g31 A40 c40 wz ⟨hot41, hkt41, hbt41⟩
        case rest =>
          intro _ _ _ _ A7 c7 w7 hF
          obtain ⟨ho7, hk7, hb7⟩ := hF
          have HO7 := hid ho7
          have HK7 := hid hk7
          have HB7 := hid (fun W (hk : Same w7 W) => (show Blk W w.heap.size 36 #[.slice p.A p.all.length p.ca, .slice p.B p.wh.length p.cb, .slice A7 (p.l.length + 1) c7, .slice p.Y p.l.length p.cy] from Blk.keep (S := fun _ => False) hb7 hk (fun f => f)))
          clear ho7 hk7 hb7 HS7 HS72
          have HPY := hid (HPX2.out w7 HK7.out)
          have y3 : w7.cell? ⟨w.heap.size, 3, none⟩ = some (.slice p.Y p.l.length p.cy) := (HB7.out w7 (Keep.refl _ _)).at_ 3
          have hlt7 : w.heap.size < w7.heap.size := (HB7.out w7 (Keep.refl _ _)).lt
          go_upto_region 9 with (first
            | (at_builtin; refine EBool.law2 (.tmp 43) (.tmp 45) (.slice (some ⟨w7.heap.size, 0, none⟩) 0 0) p.Y p.l.length p.cy rfl rfl rfl rfl w7.heap.size 0 [] (bcells oks) p.l.length (bcells oks) (Nat.zero_add _) (List.nil_append _) (Own.lit0 w7 _ 1) HOL.out (Sl.src HPY.out ((Keep.refl _ w7).alloc _)) (bcells_one oks) (by omega) (by unfold maxLen; omega) (by simp) ?_; intro A8a c8a w8a hown hg _; have HO8a := hid hown; have HK8a := hid (show Same w7 w8a from ((Keep.refl _ w7).alloc _).grown hg (fun g e hl => by simp [Value.ownBlock] at e; omega)); clear hown hg)
            | (at_builtin; refine EBool.law2 (.tmp 46) (.tmp 50) (.slice A8a p.l.length c8a) (some ⟨w8a.heap.size, 0, none⟩) 1 1 rfl rfl rfl rfl w7.heap.size p.l.length (bcells oks) [.bool false] (p.l.length + 1) (bcells oks ++ [.bool false]) rfl rfl (HO8a.out.keep ((Keep.refl (fun _ => False) w8a).alloc _) (fun _ _ _ f => f)) rfl (fun _ => ⟨_, rfl, src_new rfl⟩) (fun u hu => by rw [List.mem_singleton.1 hu]; rfl) (by omega) (by unfold maxLen; omega) (by have := HK8a.out.size; simp; omega) ?_; intro A8 c8 w8b hown hg _; have HO8b := hid hown; have HK8b := hid (show Same w7 w8b from (HK8a.out.alloc _).grown hg (fun g e hl => by have := HO8a.out.block g e; omega)); have y4 : w8b.cell? ⟨w.heap.size, 3, none⟩ = some (.slice p.Y p.l.length p.cy) := (HB7.out w8b HK8b.out).at_ 3; have y5 := (HB7.out w8b HK8b.out).free 3; clear hown hg))
          have hb8 := (HB7.out w8b HK8b.out).put 3 (.slice A8 (p.l.length + 1) c8)
          have hk8 := Keep.put (Keep.wide (T := fun i => i = w.heap.size) HK8b.out (fun _ _ f => f.elim)) 3 (.slice A8 (p.l.length + 1) c8)
          have ho8 := Own.keep HO8b.out (Keep.put (Keep.refl (fun i => i = w.heap.size) _) 3 (.slice A8 (p.l.length + 1) c8)) (fun i h1 h2 h3 => by have h4 : i = w.heap.size := h3; omega)
          clear y3 y4 y5
          generalize (w8b.setCell ⟨w.heap.size, 3, none⟩ (.slice A8 (p.l.length + 1) c8)) = w8 at *
          have HO8 := hid ho8
          have HK8 := hid hk8
          have HB8 := hid (show Blk w8 w.heap.size 36 #[.slice p.A p.all.length p.ca, .slice p.B p.wh.length p.cb, .slice A7 (p.l.length + 1) c7, .slice A8 (p.l.length + 1) c8] from hb8)
          clear ho8 hk8
          have y0 : w8.cell? ⟨w.heap.size, 0, none⟩ = some (.slice p.A p.all.length p.ca) := hb8.at_ 0
          have y1 : w8.cell? ⟨w.heap.size, 1, none⟩ = some (.slice p.B p.wh.length p.cb) := hb8.at_ 1
          have y2 := hb8.free 1
          clear hb8
          have HB9 := HB8
          have HK9 := hid (Keep.refl (fun i => i = w.heap.size) w8)
          clear y0 y1 y2
          have HR9 := hid (Blk.keep H25.out ((HK7.out.trans HK8.out (fun i _ e => e)).trans HK9.out (fun i _ e => e)) (by omega))
          go_wp2_with (first
            | (refine wpList_load_row rfl _ (.tmp 2) rfl w.heap.size rfl _ #[.slice p.A p.all.length p.ca, .slice p.B p.wh.length p.cb, .slice A7 (p.l.length + 1) c7, .slice A8 (p.l.length + 1) c8] (0, 0) _ HB9.out Tryd.underlying36 rfl (by kernel_rfl) ?_)
            | (refine wpList_store_row rfl _ (.tmp 4) (.tmp 58) rfl (w.heap.size + 2) #[.slice p.A p.all.length p.ca, .slice p.B p.wh.length p.cb, .slice A7 (p.l.length + 1) c7, .slice A8 (p.l.length + 1) c8] rfl rfl _ _ HR9.out (by kernel_rfl) rfl (by simp [Value.oneCell']) ?_))
          refine bodyPost_ret (results_cell_tmp2 rfl _ _ _ _ _ _ _ _ _ rfl rfl rfl (Blk.row HR9.out _) Tryd.underlying36 rfl (by kernel_rfl)) rfl ?_
          rw [TellPost, HB.out]
          have hL := HL.out
          subst hL
          have hend : Keep (fun i => i = w.heap.size ∨ i = w.heap.size + 2) w8 (w8.setRow (w.heap.size + 2) #[.slice p.A p.all.length p.ca, .slice p.B p.wh.length p.cb, .slice A7 (p.l.length + 1) c7, .slice A8 (p.l.length + 1) c8]) := (HK9.out.wide (T := fun i => i = w.heap.size ∨ i = w.heap.size + 2) (fun i _ e => Or.inl e)).trans (Keep.row _ _ _) (fun i _ e => Or.inr e)
          have h78 : Keep (fun i => i = w.heap.size ∨ i = w.heap.size + 2) w7 (w8.setRow (w.heap.size + 2) #[.slice p.A p.all.length p.ca, .slice p.B p.wh.length p.cb, .slice A7 (p.l.length + 1) c7, .slice A8 (p.l.length + 1) c8]) := (HK8.out.wide (T := fun i => i = w.heap.size ∨ i = w.heap.size + 2) (fun i _ e => Or.inl e)).trans hend (fun i _ e => e)
          have hall := (HK7.out.wide (T := fun i => i = w.heap.size ∨ i = w.heap.size + 2) (fun i _ e => Or.inl e)).trans h78 (fun i _ e => e)
          have hlt2 : w.heap.size + 2 < w3.heap.size := H23.out.lt
          have h35 := HK5.out.size
          have h57 := HK7.out.size
          have h34 := HK4.out.size
          have hwd : ∀ i, i < w5.heap.size → (i = w.heap.size ∨ i = w.heap.size + 2) → (w.heap.size ≤ i ∨ Av i) := fun i _ e => Or.inl (by omega)
          have ho7 := (Own.keep HO7.out h78 (fun i h1 _ h3 => by omega)).sl (Av := fun i => i < w.heap.size ∧ Av i) (fun g hg h1 => by omega)
          have ho8 := (Own.keep HO8.out hend (fun i h1 _ h3 => by omega)).sl (Av := fun i => i < w.heap.size ∧ Av i) (fun g hg h1 => by omega)
          rw [← srcells_snoc] at ho7
          have hlen : (p.l ++ [x]).length = p.l.length + 1 := by simp
          refine ⟨(⟨p.A, p.ca, p.all, p.B, p.cb, p.wh, A7, c7, p.l ++ [x], A8, c8⟩ : Sp), oks ++ [false], by simp [Sp.cells, spotS], rfl, rfl, by simp [keys], rfl, ⟨?_, ?_, ⟨by simpa using ho7, ?_⟩, by simpa [bcells] using ho8⟩, HKA.out.trans hall (fun i hi e => by omega)⟩
          · exact (HP5.out.all_.keep hall hwd).wide (fun i _ e => Or.inr e.2)
          · exact (HP5.out.wh_.keep hall hwd).wide (fun i _ e => Or.inr e.2)
          · intro s hs
            rw [List.mem_append] at hs
            rcases hs with hs | hs
            · exact ⟨(Sl.keep (HP5.out.srcs.each s hs).1 hall hwd).wide (fun i _ e => Or.inr e.2), (HP5.out.srcs.each s hs).2⟩
            · rw [List.mem_singleton.1 hs]; exact ⟨(Sl.keep HX5s.out hall hwd).wide (fun i _ e => Or.inr e.2), by omega⟩
      · have hlp : (0 : Int) < (L : Int) := by omega
        have HB := hid (show tellS p.wh p.l.length x.key.1 x.key.2 = (bothL p.wh (setL x.ns), some true, decide (L < p.wh.length), 0) from by
          rw [tellS, if_neg (show ¬ rightB x.key.1 x.key.2.length = false from HRF.out), if_neg (by omega), if_neg (show ¬ (bothL p.wh (setL x.key.2)).length = 0 from by show ¬ (bothL p.wh (setL x.ns)).length = 0; omega), hL]; rfl)
        have HL := hid hL
        clear hL
        go_upto_region 7 with fail
        clear b1
        have HB5 := hid (fun W (hk : Same w5 W) => (show Blk W w.heap.size 36 #[.slice p.A p.all.length p.ca, .slice p.B p.wh.length p.cb, .slice p.X p.l.length p.cx, .slice p.Y p.l.length p.cy] from Blk.keep (S := fun _ => False) H05.out hk (fun f => f)))
        have HX5 := hid (fun W (hk : Same w5 W) => (show Blk W (w.heap.size + 1) 40 #[.int .i64 x.kd, .slice x.A x.ns.length x.c] from Blk.keep (S := fun _ => False) H15.out hk (fun f => f)))
        have HS7 := hid (fun W (hk : Same w5 W) => (show (W.cell? ⟨w.heap.size, 0, none⟩).isSome = true ∧ Blk W (w.heap.size + 1) 40 #[.int .i64 x.kd, .slice x.A x.ns.length x.c] from ⟨by rw [(HB5.out W hk).at_ 0]; rfl, HX5.out W hk⟩))
        have HS72 := hid (fun (W : World) {cs : Array Value} (hb : Blk W w.heap.size 36 cs) (hk : Keep (fun i => i = w.heap.size) w5 W) => (show 0 < cs.size → (W.cell? ⟨w.heap.size, 0, none⟩).isSome = true ∧ Blk W (w.heap.size + 1) 40 #[.int .i64 x.kd, .slice x.A x.ns.length x.c] from fun h0 => ⟨by rw [hb.at_ 0, Array.getElem?_eq_getElem h0]; rfl, Blk.keep (HX5.out w5 (Keep.refl _ _)) hk (by omega)⟩))
        refine wp_region_held_drew (S := fun W => (W.cell? ⟨w.heap.size, 0, none⟩).isSome = true ∧ Blk W (w.heap.size + 1) 40 #[.int .i64 x.kd, .slice x.A x.ns.length x.c]) (by kernel_rfl) (HS7.out _ (Keep.refl _ _).drew) (fun hHeld => ?_)
        refine takeO (i := 1) (v := ?_) (by kernel_rfl) (by kernel_rfl) (by kernel_rfl) (fun c a d v w h => by cases d <;> exact h) (oi := ?_) ?_ ?_ (by assumption) ?_
        rotate_left 2
        · (simp only [List.getElem?_toArray, List.getElem?_cons_succ, List.getElem?_cons_zero]; rfl)
        · (refine Or.inl ⟨by rfl, ?_⟩; intro w hSw; (try dsimp only at hSw); go_simp; try with_reducible rfl)
        try simp only [Act.put, List.setIfInBounds_toArray, List.set_cons_zero, List.set_cons_succ]
        refine takeL (i := 4) (by kernel_rfl) (by kernel_rfl) (by kernel_rfl) (fun c a d v w h => by cases d <;> exact h) (oi := ?_) ?_ _ (.tmp 3) ?_ ?_ (w.heap.size + 1) ?_ 40 (#[.int .i64 x.kd, .slice x.A x.ns.length x.c]) (0, 0) _ (fun W hW => hW.2) Tryd.underlying40 rfl (by kernel_rfl) (by assumption) ?_
        rotate_left 1
        · (simp only [List.getElem?_toArray, List.getElem?_cons_succ, List.getElem?_cons_zero]; rfl)
        · rfl
        · rfl
        · rfl
        try simp only [Act.put, List.setIfInBounds_toArray, List.set_cons_zero, List.set_cons_succ]
        clear hHeld
        apply one_rest8 (F := fun _ _ _ _ A c W => Own W w5.heap.size 40 2 (.slice A (p.l.length + 1) c) (p.l.length + 1) (srcells p.l ++ x.cells) ∧ Keep (fun i => i = w.heap.size) w5 W ∧ Blk W w.heap.size 36 #[.slice p.A p.all.length p.ca, .slice p.B p.wh.length p.cb, .slice A (p.l.length + 1) c, .slice p.Y p.l.length p.cy])
        case main =>
          intro REST
          have hkd : Same w5 w5.drew := (Keep.refl _ _).drew
          generalize w5.drew = wd at *
          refine wpAnyH_ready (rs := [0, 2, 5]) (by kernel_rfl) (by simp) ?_
          refine AllReadyH.cons rfl (fun K hK => ?_) (AllReadyH.cons rfl (fun K hK => ?_) (AllReadyH.cons rfl (fun K hK => ?_) AllReadyH.nil))
          · go_simp
            have hb1 := Blk.made (wd) 40 #[]
            have hk1 : Same (wd) ((wd).alloc (.cells #[] 40)) := (Keep.refl _ _).alloc _
            have ho1 := Own.lit0 (wd) 40 2
            obtain ⟨g1, hg1⟩ : ∃ g, g = (wd).heap.size := ⟨_, rfl⟩
            rw [← hg1] at hb1 ho1 ⊢
            have hlo1 : w5.heap.size ≤ g1 := by rw [hg1]; exact (hkd).size
            clear hg1
            generalize ((wd).alloc (.cells #[] 40)) = wo1 at *
            have hK1 : Same w5 wo1 := (hkd).then hk1
            have ho_1 := Own.rebase (base' := w5.heap.size) ho1 (fun x e => by simp [Value.ownBlock] at e; omega)
            refine hK.out _ _ (HS7.out _ (hK1)) (fun hHeld1 => ?_)
            clear hK K
            try simp only [Act.put, List.setIfInBounds_toArray, List.set_cons_zero, List.set_cons_succ]
            refine wpAnyH_ready (rs := [2, 5]) (by kernel_rfl) (by simp) ?_
            refine AllReadyH.cons rfl (fun K hK => ?_) (AllReadyH.cons rfl (fun K hK => ?_) AllReadyH.nil)
            · have e2 : (wo1).cell? ⟨w.heap.size, 2, none⟩ = some (.slice p.X p.l.length p.cx) := (HB5.out _ (hK1)).at_ 2
              go_simp
              clear e2
              refine hK.out _ _ (HS7.out _ (hK1)) (fun hHeld2 => ?_)
              clear hK K
              try simp only [Act.put, List.setIfInBounds_toArray, List.set_cons_zero, List.set_cons_succ]
              refine wpAnyH_ready (rs := [3, 5]) (by kernel_rfl) (by simp) ?_
              refine AllReadyH.cons rfl (fun K hK => ?_) (AllReadyH.cons rfl (fun K hK => ?_) AllReadyH.nil)
              · refine ESrc.step2 rfl (.tmp 35) (.tmp 37) rfl (.slice (some ⟨g1, 0, none⟩) 0 0) p.X p.l.length p.cx rfl rfl w5.heap.size 0 [] (srcells p.l) p.l.length (srcells p.l) (Nat.zero_add _) (List.nil_append _) (ho_1) (srcells_len p.l) (Sl.src HPX.out (hK1)) (srcs_one p.l) (by omega) (by unfold maxLen; omega) (hK1).size ?_
                intro A3 c3 w_3 ho3 hg3 _
                have hK3 : Same w5 w_3 := Keep.grown (hK1) hg3 (fun x e hl => by have := Own.block (ho_1) x e; omega)
                clear hg3
                refine hK.out _ _ (HS7.out _ (hK3)) (fun hHeld3 => ?_)
                clear hK K
                try simp only [Act.put, List.setIfInBounds_toArray]
                refine wpAnyH_ready (rs := [5]) (by kernel_rfl) (by simp) ?_
                refine AllReadyH.cons rfl (fun K hK => ?_) AllReadyH.nil
                go_simp
                have hb4 := Blk.made (w_3) 40 #[.int .i64 x.kd, .slice x.A x.ns.length x.c]
                have hk4 : Same (w_3) ((w_3).alloc (.cells #[.int .i64 x.kd, .slice x.A x.ns.length x.c] 40)) := (Keep.refl _ _).alloc _
                obtain ⟨g4, hg4⟩ : ∃ g, g = (w_3).heap.size := ⟨_, rfl⟩
                rw [← hg4] at hb4 ⊢
                have hlo4 : w5.heap.size ≤ g4 := by rw [hg4]; exact (hK3).size
                clear hg4
                generalize ((w_3).alloc (.cells #[.int .i64 x.kd, .slice x.A x.ns.length x.c] 40)) = wo4 at *
                have hK4 : Same w5 wo4 := (hK3).then hk4
                have ho_4 := Own.keep (ho3) hk4 (fun _ _ _ f => f)
                refine hK.out _ _ (HS7.out _ (hK4)) (fun hHeld4 => ?_)
                clear hK K
                try simp only [Act.put, List.setIfInBounds_toArray, List.set_cons_zero, List.set_cons_succ]
                refine wpAnyH_ready (rs := [6]) (by kernel_rfl) (by simp) ?_
                refine AllReadyH.cons rfl (fun K hK => ?_) AllReadyH.nil
                refine ESrc.step2 rfl (.tmp 38) (.tmp 40) rfl (.slice A3 p.l.length c3) (some ⟨g4, 0, none⟩) 1 1 rfl rfl w5.heap.size p.l.length (srcells p.l) (x.cells) (p.l.length + 1) (srcells p.l ++ x.cells) rfl rfl (ho_4) rfl (fun _ => ⟨_, rfl, src_blk (hb4)⟩) (src_one x) (by omega) (by unfold maxLen; omega) (hK4).size ?_
                intro A5 c5 w_5 ho5 hg5 _
                have hK5 : Same w5 w_5 := Keep.grown (hK4) hg5 (fun x e hl => by have := Own.block (ho_4) x e; omega)
                clear hg5
                refine hK.out _ _ (HS7.out _ (hK5)) (fun hHeld5 => ?_)
                clear hK K
                try simp only [Act.put, List.setIfInBounds_toArray]
                refine takeO (i := 7) (v := ?_) (by kernel_rfl) (by kernel_rfl) (by kernel_rfl) (fun c a d v w h => by cases d <;> exact h) (oi := ?_) ?_ ?_ (by assumption) ?_
                rotate_left 2
                · (simp only [List.getElem?_toArray, List.getElem?_cons_succ, List.getElem?_cons_zero]; rfl)
                · (refine Or.inl ⟨by rfl, ?_⟩; intro w hSw; (try dsimp only at hSw); go_simp; try with_reducible rfl)
                try simp only [Act.put]
                refine wpAnyH_ready (rs := [8]) (by kernel_rfl) (by simp) ?_
                refine AllReadyH.cons rfl (fun K hK => ?_) AllReadyH.nil
                have hbs6 := HB5.out _ (hK5)
                have x2 := hbs6.at_ 2
                have x3 := hbs6.free 2
                go_simp
                clear x2 x3
                have hbt6 := hbs6.put 2 (.slice A5 (p.l.length + 1) c5)
                have hkt6 := Keep.put (Keep.wide (T := fun i => i = w.heap.size) (hK5) (fun _ _ f => f.elim)) 2 (.slice A5 (p.l.length + 1) c5)
                have hot6 := Own.keep (ho5) (Keep.put (Keep.refl (fun i => i = w.heap.size) _) 2 (.slice A5 (p.l.length + 1) c5)) (fun i h1 h2 h3 => by have := hbs6.lt; have := (HB5.out _ (Keep.refl _ _)).lt; have h4 : i = w.heap.size := h3; omega)
                refine hK.out _ _ (HS72.out _ hbt6 hkt6 (by simp)) (fun hHeld6 => ?_)
                clear hK K
                try simp only [Act.put, List.setIfInBounds_toArray, List.set_cons_zero, List.set_cons_succ]
                refine wpAnyH_done (by kernel_rfl) ?_ _
                generalize ((w_5).setCell ⟨w.heap.size, 2, none⟩ (.slice A5 (p.l.length + 1) c5)) = wz at *
                exact REST g1 A3 c3 g4 A5 c5 wz ⟨hot6, hkt6, hbt6⟩
              · go_simp
                have hb7 := Blk.made (wo1) 40 #[.int .i64 x.kd, .slice x.A x.ns.length x.c]
                have hk7 : Same (wo1) ((wo1).alloc (.cells #[.int .i64 x.kd, .slice x.A x.ns.length x.c] 40)) := (Keep.refl _ _).alloc _
                obtain ⟨g7, hg7⟩ : ∃ g, g = (wo1).heap.size := ⟨_, rfl⟩
                rw [← hg7] at hb7 ⊢
                have hlo7 : w5.heap.size ≤ g7 := by rw [hg7]; exact (hK1).size
                have hne7 : g1 ≠ g7 := by have := Blk.lt (hb1); omega
                clear hg7
                generalize ((wo1).alloc (.cells #[.int .i64 x.kd, .slice x.A x.ns.length x.c] 40)) = wo7 at *
                have hK7 : Same w5 wo7 := (hK1).then hk7
                have hb_7E0 := Blk.keep (hb1) hk7 (fun f => f)
                have ho_7 := Own.keep (ho_1) hk7 (fun _ _ _ f => f)
                refine hK.out _ _ (HS7.out _ (hK7)) (fun hHeld7 => ?_)
                clear hK K
                try simp only [Act.put, List.setIfInBounds_toArray, List.set_cons_zero, List.set_cons_succ]
                refine wpAnyH_ready (rs := [3]) (by kernel_rfl) (by simp) ?_
                refine AllReadyH.cons rfl (fun K hK => ?_) AllReadyH.nil
                refine ESrc.step2 rfl (.tmp 35) (.tmp 37) rfl (.slice (some ⟨g1, 0, none⟩) 0 0) p.X p.l.length p.cx rfl rfl w5.heap.size 0 [] (srcells p.l) p.l.length (srcells p.l) (Nat.zero_add _) (List.nil_append _) (ho_7) (srcells_len p.l) (Sl.src HPX.out (hK7)) (srcs_one p.l) (by omega) (by unfold maxLen; omega) (hK7).size ?_
                intro A8 c8 w_8 ho8 hg8 _
                have hK8 : Same w5 w_8 := Keep.grown (hK7) hg8 (fun x e hl => by have := Own.block (ho_7) x e; omega)
                have hb_8 := Blk.keep (hb7) ((Keep.refl (· = g1) _).grown hg8 (fun x e _ => by simp [Value.ownBlock] at e; exact e.symm)) (Ne.symm hne7)
                clear hg8
                refine hK.out _ _ (HS7.out _ (hK8)) (fun hHeld8 => ?_)
                clear hK K
                try simp only [Act.put, List.setIfInBounds_toArray]
                refine wpAnyH_ready (rs := [6]) (by kernel_rfl) (by simp) ?_
                refine AllReadyH.cons rfl (fun K hK => ?_) AllReadyH.nil
                refine ESrc.step2 rfl (.tmp 38) (.tmp 40) rfl (.slice A8 p.l.length c8) (some ⟨g7, 0, none⟩) 1 1 rfl rfl w5.heap.size p.l.length (srcells p.l) (x.cells) (p.l.length + 1) (srcells p.l ++ x.cells) rfl rfl (ho8) rfl (fun _ => ⟨_, rfl, src_blk (hb_8)⟩) (src_one x) (by omega) (by unfold maxLen; omega) (hK8).size ?_
                intro A9 c9 w_9 ho9 hg9 _
                have hK9 : Same w5 w_9 := Keep.grown (hK8) hg9 (fun x e hl => by have := Own.block (ho8) x e; omega)
                clear hg9
                refine hK.out _ _ (HS7.out _ (hK9)) (fun hHeld9 => ?_)
                clear hK K
                try simp only [Act.put]
                refine takeO (i := 7) (v := ?_) (by kernel_rfl) (by kernel_rfl) (by kernel_rfl) (fun c a d v w h => by cases d <;> exact h) (oi := ?_) ?_ ?_ (by assumption) ?_
                rotate_left 2
                · (simp only [List.getElem?_toArray, List.getElem?_cons_succ, List.getElem?_cons_zero]; rfl)
                · (refine Or.inl ⟨by rfl, ?_⟩; intro w hSw; (try dsimp only at hSw); go_simp; try with_reducible rfl)
                try simp only [Act.put]
                refine wpAnyH_ready (rs := [8]) (by kernel_rfl) (by simp) ?_
                refine AllReadyH.cons rfl (fun K hK => ?_) AllReadyH.nil
                have hbs10 := HB5.out _ (hK9)
                have x2 := hbs10.at_ 2
                have x3 := hbs10.free 2
                go_simp
                clear x2 x3
                have hbt10 := hbs10.put 2 (.slice A9 (p.l.length + 1) c9)
                have hkt10 := Keep.put (Keep.wide (T := fun i => i = w.heap.size) (hK9) (fun _ _ f => f.elim)) 2 (.slice A9 (p.l.length + 1) c9)
                have hot10 := Own.keep (ho9) (Keep.put (Keep.refl (fun i => i = w.heap.size) _) 2 (.slice A9 (p.l.length + 1) c9)) (fun i h1 h2 h3 => by have := hbs10.lt; have := (HB5.out _ (Keep.refl _ _)).lt; have h4 : i = w.heap.size := h3; omega)
                refine hK.out _ _ (HS72.out _ hbt10 hkt10 (by simp)) (fun hHeld10 => ?_)
                clear hK K
                try simp only [Act.put, List.setIfInBounds_toArray, List.set_cons_zero, List.set_cons_succ]
                refine wpAnyH_done (by kernel_rfl) ?_ _
                generalize ((w_9).setCell ⟨w.heap.size, 2, none⟩ (.slice A9 (p.l.length + 1) c9)) = wz at *
                exact REST g1 A8 c8 g7 A9 c9 wz ⟨hot10, hkt10, hbt10⟩
            · go_simp
              have hb11 := Blk.made (wo1) 40 #[.int .i64 x.kd, .slice x.A x.ns.length x.c]
              have hk11 : Same (wo1) ((wo1).alloc (.cells #[.int .i64 x.kd, .slice x.A x.ns.length x.c] 40)) := (Keep.refl _ _).alloc _
              obtain ⟨g11, hg11⟩ : ∃ g, g = (wo1).heap.size := ⟨_, rfl⟩
              rw [← hg11] at hb11 ⊢
              have hlo11 : w5.heap.size ≤ g11 := by rw [hg11]; exact (hK1).size
              have hne11 : g1 ≠ g11 := by have := Blk.lt (hb1); omega
              clear hg11
              generalize ((wo1).alloc (.cells #[.int .i64 x.kd, .slice x.A x.ns.length x.c] 40)) = wo11 at *
              have hK11 : Same w5 wo11 := (hK1).then hk11
              have hb_11E0 := Blk.keep (hb1) hk11 (fun f => f)
              have ho_11 := Own.keep (ho_1) hk11 (fun _ _ _ f => f)
              refine hK.out _ _ (HS7.out _ (hK11)) (fun hHeld11 => ?_)
              clear hK K
              try simp only [Act.put, List.setIfInBounds_toArray, List.set_cons_zero, List.set_cons_succ]
              refine wpAnyH_ready (rs := [2]) (by kernel_rfl) (by simp) ?_
              refine AllReadyH.cons rfl (fun K hK => ?_) AllReadyH.nil
              have e12 : (wo11).cell? ⟨w.heap.size, 2, none⟩ = some (.slice p.X p.l.length p.cx) := (HB5.out _ (hK11)).at_ 2
              go_simp
              clear e12
              refine hK.out _ _ (HS7.out _ (hK11)) (fun hHeld12 => ?_)
              clear hK K
              try simp only [Act.put, List.setIfInBounds_toArray, List.set_cons_zero, List.set_cons_succ]
              refine wpAnyH_ready (rs := [3]) (by kernel_rfl) (by simp) ?_
              refine AllReadyH.cons rfl (fun K hK => ?_) AllReadyH.nil
              refine ESrc.step2 rfl (.tmp 35) (.tmp 37) rfl (.slice (some ⟨g1, 0, none⟩) 0 0) p.X p.l.length p.cx rfl rfl w5.heap.size 0 [] (srcells p.l) p.l.length (srcells p.l) (Nat.zero_add _) (List.nil_append _) (ho_11) (srcells_len p.l) (Sl.src HPX.out (hK11)) (srcs_one p.l) (by omega) (by unfold maxLen; omega) (hK11).size ?_
              intro A13 c13 w_13 ho13 hg13 _
              have hK13 : Same w5 w_13 := Keep.grown (hK11) hg13 (fun x e hl => by have := Own.block (ho_11) x e; omega)
              have hb_13 := Blk.keep (hb11) ((Keep.refl (· = g1) _).grown hg13 (fun x e _ => by simp [Value.ownBlock] at e; exact e.symm)) (Ne.symm hne11)
              clear hg13
              refine hK.out _ _ (HS7.out _ (hK13)) (fun hHeld13 => ?_)
              clear hK K
              try simp only [Act.put, List.setIfInBounds_toArray]
              refine wpAnyH_ready (rs := [6]) (by kernel_rfl) (by simp) ?_
              refine AllReadyH.cons rfl (fun K hK => ?_) AllReadyH.nil
              refine ESrc.step2 rfl (.tmp 38) (.tmp 40) rfl (.slice A13 p.l.length c13) (some ⟨g11, 0, none⟩) 1 1 rfl rfl w5.heap.size p.l.length (srcells p.l) (x.cells) (p.l.length + 1) (srcells p.l ++ x.cells) rfl rfl (ho13) rfl (fun _ => ⟨_, rfl, src_blk (hb_13)⟩) (src_one x) (by omega) (by unfold maxLen; omega) (hK13).size ?_
              intro A14 c14 w_14 ho14 hg14 _
              have hK14 : Same w5 w_14 := Keep.grown (hK13) hg14 (fun x e hl => by have := Own.block (ho13) x e; omega)
              clear hg14
              refine hK.out _ _ (HS7.out _ (hK14)) (fun hHeld14 => ?_)
              clear hK K
              try simp only [Act.put]
              refine takeO (i := 7) (v := ?_) (by kernel_rfl) (by kernel_rfl) (by kernel_rfl) (fun c a d v w h => by cases d <;> exact h) (oi := ?_) ?_ ?_ (by assumption) ?_
              rotate_left 2
              · (simp only [List.getElem?_toArray, List.getElem?_cons_succ, List.getElem?_cons_zero]; rfl)
              · (refine Or.inl ⟨by rfl, ?_⟩; intro w hSw; (try dsimp only at hSw); go_simp; try with_reducible rfl)
              try simp only [Act.put]
              refine wpAnyH_ready (rs := [8]) (by kernel_rfl) (by simp) ?_
              refine AllReadyH.cons rfl (fun K hK => ?_) AllReadyH.nil
              have hbs15 := HB5.out _ (hK14)
              have x2 := hbs15.at_ 2
              have x3 := hbs15.free 2
              go_simp
              clear x2 x3
              have hbt15 := hbs15.put 2 (.slice A14 (p.l.length + 1) c14)
              have hkt15 := Keep.put (Keep.wide (T := fun i => i = w.heap.size) (hK14) (fun _ _ f => f.elim)) 2 (.slice A14 (p.l.length + 1) c14)
              have hot15 := Own.keep (ho14) (Keep.put (Keep.refl (fun i => i = w.heap.size) _) 2 (.slice A14 (p.l.length + 1) c14)) (fun i h1 h2 h3 => by have := hbs15.lt; have := (HB5.out _ (Keep.refl _ _)).lt; have h4 : i = w.heap.size := h3; omega)
              refine hK.out _ _ (HS72.out _ hbt15 hkt15 (by simp)) (fun hHeld15 => ?_)
              clear hK K
              try simp only [Act.put, List.setIfInBounds_toArray, List.set_cons_zero, List.set_cons_succ]
              refine wpAnyH_done (by kernel_rfl) ?_ _
              generalize ((w_14).setCell ⟨w.heap.size, 2, none⟩ (.slice A14 (p.l.length + 1) c14)) = wz at *
              exact REST g1 A13 c13 g11 A14 c14 wz ⟨hot15, hkt15, hbt15⟩
          · have e16 : (wd).cell? ⟨w.heap.size, 2, none⟩ = some (.slice p.X p.l.length p.cx) := (HB5.out _ (hkd)).at_ 2
            go_simp
            clear e16
            refine hK.out _ _ (HS7.out _ (hkd)) (fun hHeld16 => ?_)
            clear hK K
            try simp only [Act.put, List.setIfInBounds_toArray, List.set_cons_zero, List.set_cons_succ]
            refine wpAnyH_ready (rs := [0, 5]) (by kernel_rfl) (by simp) ?_
            refine AllReadyH.cons rfl (fun K hK => ?_) (AllReadyH.cons rfl (fun K hK => ?_) AllReadyH.nil)
            · go_simp
              have hb17 := Blk.made (wd) 40 #[]
              have hk17 : Same (wd) ((wd).alloc (.cells #[] 40)) := (Keep.refl _ _).alloc _
              have ho17 := Own.lit0 (wd) 40 2
              obtain ⟨g17, hg17⟩ : ∃ g, g = (wd).heap.size := ⟨_, rfl⟩
              rw [← hg17] at hb17 ho17 ⊢
              have hlo17 : w5.heap.size ≤ g17 := by rw [hg17]; exact (hkd).size
              clear hg17
              generalize ((wd).alloc (.cells #[] 40)) = wo17 at *
              have hK17 : Same w5 wo17 := (hkd).then hk17
              have ho_17 := Own.rebase (base' := w5.heap.size) ho17 (fun x e => by simp [Value.ownBlock] at e; omega)
              refine hK.out _ _ (HS7.out _ (hK17)) (fun hHeld17 => ?_)
              clear hK K
              try simp only [Act.put, List.setIfInBounds_toArray, List.set_cons_zero, List.set_cons_succ]
              refine wpAnyH_ready (rs := [3, 5]) (by kernel_rfl) (by simp) ?_
              refine AllReadyH.cons rfl (fun K hK => ?_) (AllReadyH.cons rfl (fun K hK => ?_) AllReadyH.nil)
              · refine ESrc.step2 rfl (.tmp 35) (.tmp 37) rfl (.slice (some ⟨g17, 0, none⟩) 0 0) p.X p.l.length p.cx rfl rfl w5.heap.size 0 [] (srcells p.l) p.l.length (srcells p.l) (Nat.zero_add _) (List.nil_append _) (ho_17) (srcells_len p.l) (Sl.src HPX.out (hK17)) (srcs_one p.l) (by omega) (by unfold maxLen; omega) (hK17).size ?_
                intro A18 c18 w_18 ho18 hg18 _
                have hK18 : Same w5 w_18 := Keep.grown (hK17) hg18 (fun x e hl => by have := Own.block (ho_17) x e; omega)
                clear hg18
                refine hK.out _ _ (HS7.out _ (hK18)) (fun hHeld18 => ?_)
                clear hK K
                try simp only [Act.put, List.setIfInBounds_toArray]
                refine wpAnyH_ready (rs := [5]) (by kernel_rfl) (by simp) ?_
                refine AllReadyH.cons rfl (fun K hK => ?_) AllReadyH.nil
                go_simp
                have hb19 := Blk.made (w_18) 40 #[.int .i64 x.kd, .slice x.A x.ns.length x.c]
                have hk19 : Same (w_18) ((w_18).alloc (.cells #[.int .i64 x.kd, .slice x.A x.ns.length x.c] 40)) := (Keep.refl _ _).alloc _
                obtain ⟨g19, hg19⟩ : ∃ g, g = (w_18).heap.size := ⟨_, rfl⟩
                rw [← hg19] at hb19 ⊢
                have hlo19 : w5.heap.size ≤ g19 := by rw [hg19]; exact (hK18).size
                clear hg19
                generalize ((w_18).alloc (.cells #[.int .i64 x.kd, .slice x.A x.ns.length x.c] 40)) = wo19 at *
                have hK19 : Same w5 wo19 := (hK18).then hk19
                have ho_19 := Own.keep (ho18) hk19 (fun _ _ _ f => f)
                refine hK.out _ _ (HS7.out _ (hK19)) (fun hHeld19 => ?_)
                clear hK K
                try simp only [Act.put, List.setIfInBounds_toArray, List.set_cons_zero, List.set_cons_succ]
                refine wpAnyH_ready (rs := [6]) (by kernel_rfl) (by simp) ?_
                refine AllReadyH.cons rfl (fun K hK => ?_) AllReadyH.nil
                refine ESrc.step2 rfl (.tmp 38) (.tmp 40) rfl (.slice A18 p.l.length c18) (some ⟨g19, 0, none⟩) 1 1 rfl rfl w5.heap.size p.l.length (srcells p.l) (x.cells) (p.l.length + 1) (srcells p.l ++ x.cells) rfl rfl (ho_19) rfl (fun _ => ⟨_, rfl, src_blk (hb19)⟩) (src_one x) (by omega) (by unfold maxLen; omega) (hK19).size ?_
                intro A20 c20 w_20 ho20 hg20 _
                have hK20 : Same w5 w_20 := Keep.grown (hK19) hg20 (fun x e hl => by have := Own.block (ho_19) x e; omega)
                clear hg20
                refine hK.out _ _ (HS7.out _ (hK20)) (fun hHeld20 => ?_)
                clear hK K
                try simp only [Act.put, List.setIfInBounds_toArray]
                refine takeO (i := 7) (v := ?_) (by kernel_rfl) (by kernel_rfl) (by kernel_rfl) (fun c a d v w h => by cases d <;> exact h) (oi := ?_) ?_ ?_ (by assumption) ?_
                rotate_left 2
                · (simp only [List.getElem?_toArray, List.getElem?_cons_succ, List.getElem?_cons_zero]; rfl)
                · (refine Or.inl ⟨by rfl, ?_⟩; intro w hSw; (try dsimp only at hSw); go_simp; try with_reducible rfl)
                try simp only [Act.put]
                refine wpAnyH_ready (rs := [8]) (by kernel_rfl) (by simp) ?_
                refine AllReadyH.cons rfl (fun K hK => ?_) AllReadyH.nil
                have hbs21 := HB5.out _ (hK20)
                have x2 := hbs21.at_ 2
                have x3 := hbs21.free 2
                go_simp
                clear x2 x3
                have hbt21 := hbs21.put 2 (.slice A20 (p.l.length + 1) c20)
                have hkt21 := Keep.put (Keep.wide (T := fun i => i = w.heap.size) (hK20) (fun _ _ f => f.elim)) 2 (.slice A20 (p.l.length + 1) c20)
                have hot21 := Own.keep (ho20) (Keep.put (Keep.refl (fun i => i = w.heap.size) _) 2 (.slice A20 (p.l.length + 1) c20)) (fun i h1 h2 h3 => by have := hbs21.lt; have := (HB5.out _ (Keep.refl _ _)).lt; have h4 : i = w.heap.size := h3; omega)
                refine hK.out _ _ (HS72.out _ hbt21 hkt21 (by simp)) (fun hHeld21 => ?_)
                clear hK K
                try simp only [Act.put, List.setIfInBounds_toArray, List.set_cons_zero, List.set_cons_succ]
                refine wpAnyH_done (by kernel_rfl) ?_ _
                generalize ((w_20).setCell ⟨w.heap.size, 2, none⟩ (.slice A20 (p.l.length + 1) c20)) = wz at *
                exact REST g17 A18 c18 g19 A20 c20 wz ⟨hot21, hkt21, hbt21⟩
              · go_simp
                have hb22 := Blk.made (wo17) 40 #[.int .i64 x.kd, .slice x.A x.ns.length x.c]
                have hk22 : Same (wo17) ((wo17).alloc (.cells #[.int .i64 x.kd, .slice x.A x.ns.length x.c] 40)) := (Keep.refl _ _).alloc _
                obtain ⟨g22, hg22⟩ : ∃ g, g = (wo17).heap.size := ⟨_, rfl⟩
                rw [← hg22] at hb22 ⊢
                have hlo22 : w5.heap.size ≤ g22 := by rw [hg22]; exact (hK17).size
                have hne22 : g17 ≠ g22 := by have := Blk.lt (hb17); omega
                clear hg22
                generalize ((wo17).alloc (.cells #[.int .i64 x.kd, .slice x.A x.ns.length x.c] 40)) = wo22 at *
                have hK22 : Same w5 wo22 := (hK17).then hk22
                have hb_22E0 := Blk.keep (hb17) hk22 (fun f => f)
                have ho_22 := Own.keep (ho_17) hk22 (fun _ _ _ f => f)
                refine hK.out _ _ (HS7.out _ (hK22)) (fun hHeld22 => ?_)
                clear hK K
                try simp only [Act.put, List.setIfInBounds_toArray, List.set_cons_zero, List.set_cons_succ]
                refine wpAnyH_ready (rs := [3]) (by kernel_rfl) (by simp) ?_
                refine AllReadyH.cons rfl (fun K hK => ?_) AllReadyH.nil
                refine ESrc.step2 rfl (.tmp 35) (.tmp 37) rfl (.slice (some ⟨g17, 0, none⟩) 0 0) p.X p.l.length p.cx rfl rfl w5.heap.size 0 [] (srcells p.l) p.l.length (srcells p.l) (Nat.zero_add _) (List.nil_append _) (ho_22) (srcells_len p.l) (Sl.src HPX.out (hK22)) (srcs_one p.l) (by omega) (by unfold maxLen; omega) (hK22).size ?_
                intro A23 c23 w_23 ho23 hg23 _
                have hK23 : Same w5 w_23 := Keep.grown (hK22) hg23 (fun x e hl => by have := Own.block (ho_22) x e; omega)
                have hb_23 := Blk.keep (hb22) ((Keep.refl (· = g17) _).grown hg23 (fun x e _ => by simp [Value.ownBlock] at e; exact e.symm)) (Ne.symm hne22)
                clear hg23
                refine hK.out _ _ (HS7.out _ (hK23)) (fun hHeld23 => ?_)
                clear hK K
                try simp only [Act.put, List.setIfInBounds_toArray]
                refine wpAnyH_ready (rs := [6]) (by kernel_rfl) (by simp) ?_
                refine AllReadyH.cons rfl (fun K hK => ?_) AllReadyH.nil
                refine ESrc.step2 rfl (.tmp 38) (.tmp 40) rfl (.slice A23 p.l.length c23) (some ⟨g22, 0, none⟩) 1 1 rfl rfl w5.heap.size p.l.length (srcells p.l) (x.cells) (p.l.length + 1) (srcells p.l ++ x.cells) rfl rfl (ho23) rfl (fun _ => ⟨_, rfl, src_blk (hb_23)⟩) (src_one x) (by omega) (by unfold maxLen; omega) (hK23).size ?_
                intro A24 c24 w_24 ho24 hg24 _
                have hK24 : Same w5 w_24 := Keep.grown (hK23) hg24 (fun x e hl => by have := Own.block (ho23) x e; omega)
                clear hg24
                refine hK.out _ _ (HS7.out _ (hK24)) (fun hHeld24 => ?_)
                clear hK K
                try simp only [Act.put]
                refine takeO (i := 7) (v := ?_) (by kernel_rfl) (by kernel_rfl) (by kernel_rfl) (fun c a d v w h => by cases d <;> exact h) (oi := ?_) ?_ ?_ (by assumption) ?_
                rotate_left 2
                · (simp only [List.getElem?_toArray, List.getElem?_cons_succ, List.getElem?_cons_zero]; rfl)
                · (refine Or.inl ⟨by rfl, ?_⟩; intro w hSw; (try dsimp only at hSw); go_simp; try with_reducible rfl)
                try simp only [Act.put]
                refine wpAnyH_ready (rs := [8]) (by kernel_rfl) (by simp) ?_
                refine AllReadyH.cons rfl (fun K hK => ?_) AllReadyH.nil
                have hbs25 := HB5.out _ (hK24)
                have x2 := hbs25.at_ 2
                have x3 := hbs25.free 2
                go_simp
                clear x2 x3
                have hbt25 := hbs25.put 2 (.slice A24 (p.l.length + 1) c24)
                have hkt25 := Keep.put (Keep.wide (T := fun i => i = w.heap.size) (hK24) (fun _ _ f => f.elim)) 2 (.slice A24 (p.l.length + 1) c24)
                have hot25 := Own.keep (ho24) (Keep.put (Keep.refl (fun i => i = w.heap.size) _) 2 (.slice A24 (p.l.length + 1) c24)) (fun i h1 h2 h3 => by have := hbs25.lt; have := (HB5.out _ (Keep.refl _ _)).lt; have h4 : i = w.heap.size := h3; omega)
                refine hK.out _ _ (HS72.out _ hbt25 hkt25 (by simp)) (fun hHeld25 => ?_)
                clear hK K
                try simp only [Act.put, List.setIfInBounds_toArray, List.set_cons_zero, List.set_cons_succ]
                refine wpAnyH_done (by kernel_rfl) ?_ _
                generalize ((w_24).setCell ⟨w.heap.size, 2, none⟩ (.slice A24 (p.l.length + 1) c24)) = wz at *
                exact REST g17 A23 c23 g22 A24 c24 wz ⟨hot25, hkt25, hbt25⟩
            · go_simp
              have hb26 := Blk.made (wd) 40 #[.int .i64 x.kd, .slice x.A x.ns.length x.c]
              have hk26 : Same (wd) ((wd).alloc (.cells #[.int .i64 x.kd, .slice x.A x.ns.length x.c] 40)) := (Keep.refl _ _).alloc _
              obtain ⟨g26, hg26⟩ : ∃ g, g = (wd).heap.size := ⟨_, rfl⟩
              rw [← hg26] at hb26 ⊢
              have hlo26 : w5.heap.size ≤ g26 := by rw [hg26]; exact (hkd).size
              clear hg26
              generalize ((wd).alloc (.cells #[.int .i64 x.kd, .slice x.A x.ns.length x.c] 40)) = wo26 at *
              have hK26 : Same w5 wo26 := (hkd).then hk26
              refine hK.out _ _ (HS7.out _ (hK26)) (fun hHeld26 => ?_)
              clear hK K
              try simp only [Act.put, List.setIfInBounds_toArray, List.set_cons_zero, List.set_cons_succ]
              refine wpAnyH_ready (rs := [0]) (by kernel_rfl) (by simp) ?_
              refine AllReadyH.cons rfl (fun K hK => ?_) AllReadyH.nil
              go_simp
              have hb27 := Blk.made (wo26) 40 #[]
              have hk27 : Same (wo26) ((wo26).alloc (.cells #[] 40)) := (Keep.refl _ _).alloc _
              have ho27 := Own.lit0 (wo26) 40 2
              obtain ⟨g27, hg27⟩ : ∃ g, g = (wo26).heap.size := ⟨_, rfl⟩
              rw [← hg27] at hb27 ho27 ⊢
              have hlo27 : w5.heap.size ≤ g27 := by rw [hg27]; exact (hK26).size
              have hne27 : g26 ≠ g27 := by have := Blk.lt (hb26); omega
              clear hg27
              generalize ((wo26).alloc (.cells #[] 40)) = wo27 at *
              have hK27 : Same w5 wo27 := (hK26).then hk27
              have hb_27B := Blk.keep (hb26) hk27 (fun f => f)
              have ho_27 := Own.rebase (base' := w5.heap.size) ho27 (fun x e => by simp [Value.ownBlock] at e; omega)
              refine hK.out _ _ (HS7.out _ (hK27)) (fun hHeld27 => ?_)
              clear hK K
              try simp only [Act.put, List.setIfInBounds_toArray, List.set_cons_zero, List.set_cons_succ]
              refine wpAnyH_ready (rs := [3]) (by kernel_rfl) (by simp) ?_
              refine AllReadyH.cons rfl (fun K hK => ?_) AllReadyH.nil
              refine ESrc.step2 rfl (.tmp 35) (.tmp 37) rfl (.slice (some ⟨g27, 0, none⟩) 0 0) p.X p.l.length p.cx rfl rfl w5.heap.size 0 [] (srcells p.l) p.l.length (srcells p.l) (Nat.zero_add _) (List.nil_append _) (ho_27) (srcells_len p.l) (Sl.src HPX.out (hK27)) (srcs_one p.l) (by omega) (by unfold maxLen; omega) (hK27).size ?_
              intro A28 c28 w_28 ho28 hg28 _
              have hK28 : Same w5 w_28 := Keep.grown (hK27) hg28 (fun x e hl => by have := Own.block (ho_27) x e; omega)
              have hb_28 := Blk.keep (hb_27B) ((Keep.refl (· = g27) _).grown hg28 (fun x e _ => by simp [Value.ownBlock] at e; exact e.symm)) hne27
              clear hg28
              refine hK.out _ _ (HS7.out _ (hK28)) (fun hHeld28 => ?_)
              clear hK K
              try simp only [Act.put, List.setIfInBounds_toArray]
              refine wpAnyH_ready (rs := [6]) (by kernel_rfl) (by simp) ?_
              refine AllReadyH.cons rfl (fun K hK => ?_) AllReadyH.nil
              refine ESrc.step2 rfl (.tmp 38) (.tmp 40) rfl (.slice A28 p.l.length c28) (some ⟨g26, 0, none⟩) 1 1 rfl rfl w5.heap.size p.l.length (srcells p.l) (x.cells) (p.l.length + 1) (srcells p.l ++ x.cells) rfl rfl (ho28) rfl (fun _ => ⟨_, rfl, src_blk (hb_28)⟩) (src_one x) (by omega) (by unfold maxLen; omega) (hK28).size ?_
              intro A29 c29 w_29 ho29 hg29 _
              have hK29 : Same w5 w_29 := Keep.grown (hK28) hg29 (fun x e hl => by have := Own.block (ho28) x e; omega)
              clear hg29
              refine hK.out _ _ (HS7.out _ (hK29)) (fun hHeld29 => ?_)
              clear hK K
              try simp only [Act.put]
              refine takeO (i := 7) (v := ?_) (by kernel_rfl) (by kernel_rfl) (by kernel_rfl) (fun c a d v w h => by cases d <;> exact h) (oi := ?_) ?_ ?_ (by assumption) ?_
              rotate_left 2
              · (simp only [List.getElem?_toArray, List.getElem?_cons_succ, List.getElem?_cons_zero]; rfl)
              · (refine Or.inl ⟨by rfl, ?_⟩; intro w hSw; (try dsimp only at hSw); go_simp; try with_reducible rfl)
              try simp only [Act.put]
              refine wpAnyH_ready (rs := [8]) (by kernel_rfl) (by simp) ?_
              refine AllReadyH.cons rfl (fun K hK => ?_) AllReadyH.nil
              have hbs30 := HB5.out _ (hK29)
              have x2 := hbs30.at_ 2
              have x3 := hbs30.free 2
              go_simp
              clear x2 x3
              have hbt30 := hbs30.put 2 (.slice A29 (p.l.length + 1) c29)
              have hkt30 := Keep.put (Keep.wide (T := fun i => i = w.heap.size) (hK29) (fun _ _ f => f.elim)) 2 (.slice A29 (p.l.length + 1) c29)
              have hot30 := Own.keep (ho29) (Keep.put (Keep.refl (fun i => i = w.heap.size) _) 2 (.slice A29 (p.l.length + 1) c29)) (fun i h1 h2 h3 => by have := hbs30.lt; have := (HB5.out _ (Keep.refl _ _)).lt; have h4 : i = w.heap.size := h3; omega)
              refine hK.out _ _ (HS72.out _ hbt30 hkt30 (by simp)) (fun hHeld30 => ?_)
              clear hK K
              try simp only [Act.put, List.setIfInBounds_toArray, List.set_cons_zero, List.set_cons_succ]
              refine wpAnyH_done (by kernel_rfl) ?_ _
              generalize ((w_29).setCell ⟨w.heap.size, 2, none⟩ (.slice A29 (p.l.length + 1) c29)) = wz at *
              exact REST g27 A28 c28 g26 A29 c29 wz ⟨hot30, hkt30, hbt30⟩
          · go_simp
            have hb31 := Blk.made (wd) 40 #[.int .i64 x.kd, .slice x.A x.ns.length x.c]
            have hk31 : Same (wd) ((wd).alloc (.cells #[.int .i64 x.kd, .slice x.A x.ns.length x.c] 40)) := (Keep.refl _ _).alloc _
            obtain ⟨g31, hg31⟩ : ∃ g, g = (wd).heap.size := ⟨_, rfl⟩
            rw [← hg31] at hb31 ⊢
            have hlo31 : w5.heap.size ≤ g31 := by rw [hg31]; exact (hkd).size
            clear hg31
            generalize ((wd).alloc (.cells #[.int .i64 x.kd, .slice x.A x.ns.length x.c] 40)) = wo31 at *
            have hK31 : Same w5 wo31 := (hkd).then hk31
            refine hK.out _ _ (HS7.out _ (hK31)) (fun hHeld31 => ?_)
            clear hK K
            try simp only [Act.put, List.setIfInBounds_toArray, List.set_cons_zero, List.set_cons_succ]
            refine wpAnyH_ready (rs := [0, 2]) (by kernel_rfl) (by simp) ?_
            refine AllReadyH.cons rfl (fun K hK => ?_) (AllReadyH.cons rfl (fun K hK => ?_) AllReadyH.nil)
            · go_simp
              have hb32 := Blk.made (wo31) 40 #[]
              have hk32 : Same (wo31) ((wo31).alloc (.cells #[] 40)) := (Keep.refl _ _).alloc _
              have ho32 := Own.lit0 (wo31) 40 2
              obtain ⟨g32, hg32⟩ : ∃ g, g = (wo31).heap.size := ⟨_, rfl⟩
              rw [← hg32] at hb32 ho32 ⊢
              have hlo32 : w5.heap.size ≤ g32 := by rw [hg32]; exact (hK31).size
              have hne32 : g31 ≠ g32 := by have := Blk.lt (hb31); omega
              clear hg32
              generalize ((wo31).alloc (.cells #[] 40)) = wo32 at *
              have hK32 : Same w5 wo32 := (hK31).then hk32
              have hb_32B := Blk.keep (hb31) hk32 (fun f => f)
              have ho_32 := Own.rebase (base' := w5.heap.size) ho32 (fun x e => by simp [Value.ownBlock] at e; omega)
              refine hK.out _ _ (HS7.out _ (hK32)) (fun hHeld32 => ?_)
              clear hK K
              try simp only [Act.put, List.setIfInBounds_toArray, List.set_cons_zero, List.set_cons_succ]
              refine wpAnyH_ready (rs := [2]) (by kernel_rfl) (by simp) ?_
              refine AllReadyH.cons rfl (fun K hK => ?_) AllReadyH.nil
              have e33 : (wo32).cell? ⟨w.heap.size, 2, none⟩ = some (.slice p.X p.l.length p.cx) := (HB5.out _ (hK32)).at_ 2
              go_simp
              clear e33
              refine hK.out _ _ (HS7.out _ (hK32)) (fun hHeld33 => ?_)
              clear hK K
              try simp only [Act.put, List.setIfInBounds_toArray, List.set_cons_zero, List.set_cons_succ]
              refine wpAnyH_ready (rs := [3]) (by kernel_rfl) (by simp) ?_
              refine AllReadyH.cons rfl (fun K hK => ?_) AllReadyH.nil
              refine ESrc.step2 rfl (.tmp 35) (.tmp 37) rfl (.slice (some ⟨g32, 0, none⟩) 0 0) p.X p.l.length p.cx rfl rfl w5.heap.size 0 [] (srcells p.l) p.l.length (srcells p.l) (Nat.zero_add _) (List.nil_append _) (ho_32) (srcells_len p.l) (Sl.src HPX.out (hK32)) (srcs_one p.l) (by omega) (by unfold maxLen; omega) (hK32).size ?_
              intro A34 c34 w_34 ho34 hg34 _
              have hK34 : Same w5 w_34 := Keep.grown (hK32) hg34 (fun x e hl => by have := Own.block (ho_32) x e; omega)
              have hb_34 := Blk.keep (hb_32B) ((Keep.refl (· = g32) _).grown hg34 (fun x e _ => by simp [Value.ownBlock] at e; exact e.symm)) hne32
              clear hg34
              refine hK.out _ _ (HS7.out _ (hK34)) (fun hHeld34 => ?_)
              clear hK K
              try simp only [Act.put, List.setIfInBounds_toArray]
              refine wpAnyH_ready (rs := [6]) (by kernel_rfl) (by simp) ?_
              refine AllReadyH.cons rfl (fun K hK => ?_) AllReadyH.nil
              refine ESrc.step2 rfl (.tmp 38) (.tmp 40) rfl (.slice A34 p.l.length c34) (some ⟨g31, 0, none⟩) 1 1 rfl rfl w5.heap.size p.l.length (srcells p.l) (x.cells) (p.l.length + 1) (srcells p.l ++ x.cells) rfl rfl (ho34) rfl (fun _ => ⟨_, rfl, src_blk (hb_34)⟩) (src_one x) (by omega) (by unfold maxLen; omega) (hK34).size ?_
              intro A35 c35 w_35 ho35 hg35 _
              have hK35 : Same w5 w_35 := Keep.grown (hK34) hg35 (fun x e hl => by have := Own.block (ho34) x e; omega)
              clear hg35
              refine hK.out _ _ (HS7.out _ (hK35)) (fun hHeld35 => ?_)
              clear hK K
              try simp only [Act.put]
              refine takeO (i := 7) (v := ?_) (by kernel_rfl) (by kernel_rfl) (by kernel_rfl) (fun c a d v w h => by cases d <;> exact h) (oi := ?_) ?_ ?_ (by assumption) ?_
              rotate_left 2
              · (simp only [List.getElem?_toArray, List.getElem?_cons_succ, List.getElem?_cons_zero]; rfl)
              · (refine Or.inl ⟨by rfl, ?_⟩; intro w hSw; (try dsimp only at hSw); go_simp; try with_reducible rfl)
              try simp only [Act.put]
              refine wpAnyH_ready (rs := [8]) (by kernel_rfl) (by simp) ?_
              refine AllReadyH.cons rfl (fun K hK => ?_) AllReadyH.nil
              have hbs36 := HB5.out _ (hK35)
              have x2 := hbs36.at_ 2
              have x3 := hbs36.free 2
              go_simp
              clear x2 x3
              have hbt36 := hbs36.put 2 (.slice A35 (p.l.length + 1) c35)
              have hkt36 := Keep.put (Keep.wide (T := fun i => i = w.heap.size) (hK35) (fun _ _ f => f.elim)) 2 (.slice A35 (p.l.length + 1) c35)
              have hot36 := Own.keep (ho35) (Keep.put (Keep.refl (fun i => i = w.heap.size) _) 2 (.slice A35 (p.l.length + 1) c35)) (fun i h1 h2 h3 => by have := hbs36.lt; have := (HB5.out _ (Keep.refl _ _)).lt; have h4 : i = w.heap.size := h3; omega)
              refine hK.out _ _ (HS72.out _ hbt36 hkt36 (by simp)) (fun hHeld36 => ?_)
              clear hK K
              try simp only [Act.put, List.setIfInBounds_toArray, List.set_cons_zero, List.set_cons_succ]
              refine wpAnyH_done (by kernel_rfl) ?_ _
              generalize ((w_35).setCell ⟨w.heap.size, 2, none⟩ (.slice A35 (p.l.length + 1) c35)) = wz at *
              exact REST g32 A34 c34 g31 A35 c35 wz ⟨hot36, hkt36, hbt36⟩
            · have e37 : (wo31).cell? ⟨w.heap.size, 2, none⟩ = some (.slice p.X p.l.length p.cx) := (HB5.out _ (hK31)).at_ 2
              go_simp
              clear e37
              refine hK.out _ _ (HS7.out _ (hK31)) (fun hHeld37 => ?_)
              clear hK K
              try simp only [Act.put, List.setIfInBounds_toArray, List.set_cons_zero, List.set_cons_succ]
              refine wpAnyH_ready (rs := [0]) (by kernel_rfl) (by simp) ?_
              refine AllReadyH.cons rfl (fun K hK => ?_) AllReadyH.nil
              go_simp
              have hb38 := Blk.made (wo31) 40 #[]
              have hk38 : Same (wo31) ((wo31).alloc (.cells #[] 40)) := (Keep.refl _ _).alloc _
              have ho38 := Own.lit0 (wo31) 40 2
              obtain ⟨g38, hg38⟩ : ∃ g, g = (wo31).heap.size := ⟨_, rfl⟩
              rw [← hg38] at hb38 ho38 ⊢
              have hlo38 : w5.heap.size ≤ g38 := by rw [hg38]; exact (hK31).size
              have hne38 : g31 ≠ g38 := by have := Blk.lt (hb31); omega
              clear hg38
              generalize ((wo31).alloc (.cells #[] 40)) = wo38 at *
              have hK38 : Same w5 wo38 := (hK31).then hk38
              have hb_38B := Blk.keep (hb31) hk38 (fun f => f)
              have ho_38 := Own.rebase (base' := w5.heap.size) ho38 (fun x e => by simp [Value.ownBlock] at e; omega)
              refine hK.out _ _ (HS7.out _ (hK38)) (fun hHeld38 => ?_)
              clear hK K
              try simp only [Act.put, List.setIfInBounds_toArray, List.set_cons_zero, List.set_cons_succ]
              refine wpAnyH_ready (rs := [3]) (by kernel_rfl) (by simp) ?_
              refine AllReadyH.cons rfl (fun K hK => ?_) AllReadyH.nil
              refine ESrc.step2 rfl (.tmp 35) (.tmp 37) rfl (.slice (some ⟨g38, 0, none⟩) 0 0) p.X p.l.length p.cx rfl rfl w5.heap.size 0 [] (srcells p.l) p.l.length (srcells p.l) (Nat.zero_add _) (List.nil_append _) (ho_38) (srcells_len p.l) (Sl.src HPX.out (hK38)) (srcs_one p.l) (by omega) (by unfold maxLen; omega) (hK38).size ?_
              intro A39 c39 w_39 ho39 hg39 _
              have hK39 : Same w5 w_39 := Keep.grown (hK38) hg39 (fun x e hl => by have := Own.block (ho_38) x e; omega)
              have hb_39 := Blk.keep (hb_38B) ((Keep.refl (· = g38) _).grown hg39 (fun x e _ => by simp [Value.ownBlock] at e; exact e.symm)) hne38
              clear hg39
              refine hK.out _ _ (HS7.out _ (hK39)) (fun hHeld39 => ?_)
              clear hK K
              try simp only [Act.put, List.setIfInBounds_toArray]
              refine wpAnyH_ready (rs := [6]) (by kernel_rfl) (by simp) ?_
              refine AllReadyH.cons rfl (fun K hK => ?_) AllReadyH.nil
              refine ESrc.step2 rfl (.tmp 38) (.tmp 40) rfl (.slice A39 p.l.length c39) (some ⟨g31, 0, none⟩) 1 1 rfl rfl w5.heap.size p.l.length (srcells p.l) (x.cells) (p.l.length + 1) (srcells p.l ++ x.cells) rfl rfl (ho39) rfl (fun _ => ⟨_, rfl, src_blk (hb_39)⟩) (src_one x) (by omega) (by unfold maxLen; omega) (hK39).size ?_
              intro A40 c40 w_40 ho40 hg40 _
              have hK40 : Same w5 w_40 := Keep.grown (hK39) hg40 (fun x e hl => by have := Own.block (ho39) x e; omega)
              clear hg40
              refine hK.out _ _ (HS7.out _ (hK40)) (fun hHeld40 => ?_)
              clear hK K
              try simp only [Act.put]
              refine takeO (i := 7) (v := ?_) (by kernel_rfl) (by kernel_rfl) (by kernel_rfl) (fun c a d v w h => by cases d <;> exact h) (oi := ?_) ?_ ?_ (by assumption) ?_
              rotate_left 2
              · (simp only [List.getElem?_toArray, List.getElem?_cons_succ, List.getElem?_cons_zero]; rfl)
              · (refine Or.inl ⟨by rfl, ?_⟩; intro w hSw; (try dsimp only at hSw); go_simp; try with_reducible rfl)
              try simp only [Act.put]
              refine wpAnyH_ready (rs := [8]) (by kernel_rfl) (by simp) ?_
              refine AllReadyH.cons rfl (fun K hK => ?_) AllReadyH.nil
              have hbs41 := HB5.out _ (hK40)
              have x2 := hbs41.at_ 2
              have x3 := hbs41.free 2
              go_simp
              clear x2 x3
              have hbt41 := hbs41.put 2 (.slice A40 (p.l.length + 1) c40)
              have hkt41 := Keep.put (Keep.wide (T := fun i => i = w.heap.size) (hK40) (fun _ _ f => f.elim)) 2 (.slice A40 (p.l.length + 1) c40)
              have hot41 := Own.keep (ho40) (Keep.put (Keep.refl (fun i => i = w.heap.size) _) 2 (.slice A40 (p.l.length + 1) c40)) (fun i h1 h2 h3 => by have := hbs41.lt; have := (HB5.out _ (Keep.refl _ _)).lt; have h4 : i = w.heap.size := h3; omega)
              refine hK.out _ _ (HS72.out _ hbt41 hkt41 (by simp)) (fun hHeld41 => ?_)
              clear hK K
              try simp only [Act.put, List.setIfInBounds_toArray, List.set_cons_zero, List.set_cons_succ]
              refine wpAnyH_done (by kernel_rfl) ?_ _
              generalize ((w_40).setCell ⟨w.heap.size, 2, none⟩ (.slice A40 (p.l.length + 1) c40)) = wz at *
              exact REST g38 A39 c39 g31 A40 c40 wz ⟨hot41, hkt41, hbt41⟩
        case rest =>
          intro _ _ _ _ A7 c7 w7 hF
          obtain ⟨ho7, hk7, hb7⟩ := hF
          have HO7 := hid ho7
          have HK7 := hid hk7
          have HB7 := hid (fun W (hk : Same w7 W) => (show Blk W w.heap.size 36 #[.slice p.A p.all.length p.ca, .slice p.B p.wh.length p.cb, .slice A7 (p.l.length + 1) c7, .slice p.Y p.l.length p.cy] from Blk.keep (S := fun _ => False) hb7 hk (fun f => f)))
          clear ho7 hk7 hb7 HS7 HS72
          have HPY := hid (HPX2.out w7 HK7.out)
          have y3 : w7.cell? ⟨w.heap.size, 3, none⟩ = some (.slice p.Y p.l.length p.cy) := (HB7.out w7 (Keep.refl _ _)).at_ 3
          have hlt7 : w.heap.size < w7.heap.size := (HB7.out w7 (Keep.refl _ _)).lt
          go_upto_region 9 with (first
            | (at_builtin; refine EBool.law2 (.tmp 43) (.tmp 45) (.slice (some ⟨w7.heap.size, 0, none⟩) 0 0) p.Y p.l.length p.cy rfl rfl rfl rfl w7.heap.size 0 [] (bcells oks) p.l.length (bcells oks) (Nat.zero_add _) (List.nil_append _) (Own.lit0 w7 _ 1) HOL.out (Sl.src HPY.out ((Keep.refl _ w7).alloc _)) (bcells_one oks) (by omega) (by unfold maxLen; omega) (by simp) ?_; intro A8a c8a w8a hown hg _; have HO8a := hid hown; have HK8a := hid (show Same w7 w8a from ((Keep.refl _ w7).alloc _).grown hg (fun g e hl => by simp [Value.ownBlock] at e; omega)); clear hown hg)
            | (at_builtin; refine EBool.law2 (.tmp 46) (.tmp 50) (.slice A8a p.l.length c8a) (some ⟨w8a.heap.size, 0, none⟩) 1 1 rfl rfl rfl rfl w7.heap.size p.l.length (bcells oks) [.bool true] (p.l.length + 1) (bcells oks ++ [.bool true]) rfl rfl (HO8a.out.keep ((Keep.refl (fun _ => False) w8a).alloc _) (fun _ _ _ f => f)) rfl (fun _ => ⟨_, rfl, src_new rfl⟩) (fun u hu => by rw [List.mem_singleton.1 hu]; rfl) (by omega) (by unfold maxLen; omega) (by have := HK8a.out.size; simp; omega) ?_; intro A8 c8 w8b hown hg _; have HO8b := hid hown; have HK8b := hid (show Same w7 w8b from (HK8a.out.alloc _).grown hg (fun g e hl => by have := HO8a.out.block g e; omega)); have y4 : w8b.cell? ⟨w.heap.size, 3, none⟩ = some (.slice p.Y p.l.length p.cy) := (HB7.out w8b HK8b.out).at_ 3; have y5 := (HB7.out w8b HK8b.out).free 3; clear hown hg))
          have hb8 := (HB7.out w8b HK8b.out).put 3 (.slice A8 (p.l.length + 1) c8)
          have hk8 := Keep.put (Keep.wide (T := fun i => i = w.heap.size) HK8b.out (fun _ _ f => f.elim)) 3 (.slice A8 (p.l.length + 1) c8)
          have ho8 := Own.keep HO8b.out (Keep.put (Keep.refl (fun i => i = w.heap.size) _) 3 (.slice A8 (p.l.length + 1) c8)) (fun i h1 h2 h3 => by have h4 : i = w.heap.size := h3; omega)
          clear y3 y4 y5
          generalize (w8b.setCell ⟨w.heap.size, 3, none⟩ (.slice A8 (p.l.length + 1) c8)) = w8 at *
          have HO8 := hid ho8
          have HK8 := hid hk8
          have HB8 := hid (show Blk w8 w.heap.size 36 #[.slice p.A p.all.length p.ca, .slice p.B p.wh.length p.cb, .slice A7 (p.l.length + 1) c7, .slice A8 (p.l.length + 1) c8] from hb8)
          clear ho8 hk8
          have y0 : w8.cell? ⟨w.heap.size, 0, none⟩ = some (.slice p.A p.all.length p.ca) := hb8.at_ 0
          have y1 : w8.cell? ⟨w.heap.size, 1, none⟩ = some (.slice p.B p.wh.length p.cb) := hb8.at_ 1
          have y2 := hb8.free 1
          clear hb8
          go_upto_region 11 with fail
          have HB9 := hid (show Blk (w8.setCell ⟨w.heap.size, 1, none⟩ (.slice B5 L d5)) w.heap.size 36 #[.slice p.A p.all.length p.ca, .slice B5 L d5, .slice A7 (p.l.length + 1) c7, .slice A8 (p.l.length + 1) c8] from HB8.out.put 1 _)
          have HK9 := hid ((Keep.refl (fun i => i = w.heap.size) w8).put 1 (.slice B5 L d5))
          clear y0 y1 y2
          generalize (w8.setCell ⟨w.heap.size, 1, none⟩ (.slice B5 L d5)) = w9 at *
          have HR9 := hid (Blk.keep H25.out ((HK7.out.trans HK8.out (fun i _ e => e)).trans HK9.out (fun i _ e => e)) (by omega))
          go_wp2_with (first
            | (refine wpList_load_row rfl _ (.tmp 2) rfl w.heap.size rfl _ #[.slice p.A p.all.length p.ca, .slice B5 L d5, .slice A7 (p.l.length + 1) c7, .slice A8 (p.l.length + 1) c8] (0, 0) _ HB9.out Tryd.underlying36 rfl (by kernel_rfl) ?_)
            | (refine wpList_store_row rfl _ (.tmp 4) (.tmp 58) rfl (w.heap.size + 2) #[.slice p.A p.all.length p.ca, .slice B5 L d5, .slice A7 (p.l.length + 1) c7, .slice A8 (p.l.length + 1) c8] rfl rfl _ _ HR9.out (by kernel_rfl) rfl (by simp [Value.oneCell']) ?_))
          refine bodyPost_ret (results_cell_tmp2 rfl _ _ _ _ _ _ _ _ _ rfl rfl rfl (Blk.row HR9.out _) Tryd.underlying36 rfl (by kernel_rfl)) rfl ?_
          rw [TellPost, HB.out]
          have hL := HL.out
          subst hL
          have hend : Keep (fun i => i = w.heap.size ∨ i = w.heap.size + 2) w8 (w9.setRow (w.heap.size + 2) #[.slice p.A p.all.length p.ca, .slice B5 (bothL p.wh (setL x.ns)).length d5, .slice A7 (p.l.length + 1) c7, .slice A8 (p.l.length + 1) c8]) := (HK9.out.wide (T := fun i => i = w.heap.size ∨ i = w.heap.size + 2) (fun i _ e => Or.inl e)).trans (Keep.row _ _ _) (fun i _ e => Or.inr e)
          have h78 : Keep (fun i => i = w.heap.size ∨ i = w.heap.size + 2) w7 (w9.setRow (w.heap.size + 2) #[.slice p.A p.all.length p.ca, .slice B5 (bothL p.wh (setL x.ns)).length d5, .slice A7 (p.l.length + 1) c7, .slice A8 (p.l.length + 1) c8]) := (HK8.out.wide (T := fun i => i = w.heap.size ∨ i = w.heap.size + 2) (fun i _ e => Or.inl e)).trans hend (fun i _ e => e)
          have hall := (HK7.out.wide (T := fun i => i = w.heap.size ∨ i = w.heap.size + 2) (fun i _ e => Or.inl e)).trans h78 (fun i _ e => e)
          have hlt2 : w.heap.size + 2 < w3.heap.size := H23.out.lt
          have h35 := HK5.out.size
          have h57 := HK7.out.size
          have h34 := HK4.out.size
          have hwd : ∀ i, i < w5.heap.size → (i = w.heap.size ∨ i = w.heap.size + 2) → (w.heap.size ≤ i ∨ Av i) := fun i _ e => Or.inl (by omega)
          have ho7 := (Own.keep HO7.out h78 (fun i h1 _ h3 => by omega)).sl (Av := fun i => i < w.heap.size ∧ Av i) (fun g hg h1 => by omega)
          have ho8 := (Own.keep HO8.out hend (fun i h1 _ h3 => by omega)).sl (Av := fun i => i < w.heap.size ∧ Av i) (fun g hg h1 => by omega)
          rw [← srcells_snoc] at ho7
          have hlen : (p.l ++ [x]).length = p.l.length + 1 := by simp
          refine ⟨(⟨p.A, p.ca, p.all, B5, d5, bothL p.wh (setL x.ns), A7, c7, p.l ++ [x], A8, c8⟩ : Sp), oks ++ [true], by simp [Sp.cells, spotS], rfl, rfl, by simp [keys], rfl, ⟨?_, ?_, ⟨by simpa using ho7, ?_⟩, by simpa [bcells] using ho8⟩, HKA.out.trans hall (fun i hi e => by omega)⟩
          · exact (HP5.out.all_.keep hall hwd).wide (fun i _ e => Or.inr e.2)
          · exact (Sl.keep HS5b.out hall (fun i _ e => by show i < w4.heap.size; omega)).wide (fun i _ e => by have e2 : i < w.heap.size := e.1; show i < w4.heap.size; omega)
          · intro s hs
            rw [List.mem_append] at hs
            rcases hs with hs | hs
            · exact ⟨(Sl.keep (HP5.out.srcs.each s hs).1 hall hwd).wide (fun i _ e => Or.inr e.2), (HP5.out.srcs.each s hs).2⟩
            · rw [List.mem_singleton.1 hs]; exact ⟨(Sl.keep HX5s.out hall hwd).wide (fun i _ e => Or.inr e.2), by omega⟩
end Go.Proofs.YtafpcffhkbeloaaDoor

import Derived.Test.YtafpcffhkbeloaaDoorLoH
namespace Go.Proofs.YtafpcffhkbeloaaDoor
open Go.RowKit

/-! ## Copies that may be written -/
def Wr (w : World) (A : Option Addr) (n : Nat) : Prop := 0 < n → ∃ b off, A = some ⟨b, off, none⟩ ∧ w.frozen? ⟨b, off, none⟩ = false
def SlW (w : World) (Av : Nat → Prop) (A : Option Addr) (l : List Int) : Prop := Sl w Av 1 A l.length (icells l) ∧ Wr w A l.length
def SrW (w : World) (Av : Nat → Prop) (s : Sr) : Prop := SlW w Av s.A s.ns
theorem Wr.own {w : World} {base : Nat} {e : TypeId} {size : Nat} {A : Option Addr} {n c : Nat} {xs : List Value} (h : Own w base e size (.slice A n c) n xs) : Wr w A n := fun hn => by
  obtain ⟨g, cur, rfl, _, hb, _⟩ := h.open_ hn
  exact ⟨g, 0, rfl, hb.free 0⟩
theorem SlW.keep {S Av : Nat → Prop} {w w' : World} {A : Option Addr} {l : List Int} (h : SlW w Av A l) (hk : Keep S w w') (hS : ∀ i, i < w.heap.size → S i → Av i) : SlW w' Av A l :=
  ⟨Sl.keep h.1 hk hS, fun hn => by
    obtain ⟨b, off, e, h1, h2, _⟩ := h.1.at_ hn
    obtain ⟨b2, off2, e2, h3⟩ := h.2 hn
    rw [e] at e2
    injection e2 with e2
    injection e2 with e3 e4
    subst e3 e4
    exact ⟨b, off, e, (hk.frozen (p := ⟨b, off, none⟩) h1 (fun hs => h2 (hS b h1 hs))).trans h3⟩⟩
theorem SlW.same {Av : Nat → Prop} {w w' : World} {A : Option Addr} {l : List Int} (h : SlW w Av A l) (hk : Same w w') : SlW w' Av A l := h.keep hk (fun _ _ f => f.elim)
theorem SlW.wide {Av Av' : Nat → Prop} {w : World} {A : Option Addr} {l : List Int} (h : SlW w Av A l) (hS : ∀ i, i < w.heap.size → Av' i → Av i) : SlW w Av' A l := ⟨Sl.wide h.1 hS, h.2⟩
def CopiesX (w0 wr : World) (D : Option Addr) (L : List Sr) : Prop := ∀ s ∈ L, SrW wr (fun i => i < w0.heap.size ∨ some i = D.map (·.block)) s ∧ s.ns.length ≤ 4096
def ListPostX (w : World) (ks : List (Int × List Int)) (e : Ending) (w' : World) : Prop := ∃ B d L, keys L = ks ∧ e = .returned (.slice B L.length d) ∧ Own w' w.heap.size 40 2 (.slice B L.length d) L.length (srcells L) ∧ CopiesX w w' B L ∧ Same w w'
set_option maxRecDepth 100000 in
set_option maxHeartbeats 4000000 in
theorem clonex_any (w : World) (Av : Nat → Prop) (A : Option Addr) (c : Nat) (l : List Int) (h : Sl w Av 1 A l.length (icells l)) (hn : l.length ≤ 1000000) :
    Calls Tryd.prog 49 #[.slice A l.length c] w fun e w' => ∃ A' c', e = .returned (.slice A' l.length c') ∧ SlW w' (· < w.heap.size) A' l ∧ Same w w' := by
  have q22 := fun (w : World) (a : Option Addr) (n c n' c' : Nat) => Lib.run_eql_slice_nil (P := Tryd.prog) w _ _ a n c n' c' Tryd.underlying22
  have hK0 : Same w (w.alloc (.cells #[] 3)) := (Keep.refl _ _).alloc _
  have hl := h.len
  cases A with
  | none =>
    have h0 : l.length = 0 := by
      by_cases hz : l.length = 0
      · exact hz
      · obtain ⟨b, off, e, _⟩ := h.at_ (by omega)
        cases e
    have HN := hid h0
    have HH := hid h
    clear h h0 hl
    go_enter Tryd.func49, Tryd.ntmps49
    go_wp2_with fail
    go_ret
    refine ⟨none, 0, by rw [HN.out]; rfl, ?_, Keep.refl _ _⟩
    have hh := List.length_eq_zero_iff.1 HN.out
    rw [hh]; exact ⟨Sl.nil _ _ _ _, fun h => absurd h (by simp)⟩
  | some ad =>
    have HH := hid h
    have HL := hid hl
    have HK0 := hid hK0
    have hsrc := hid (h.src hK0)
    clear h hl hK0
    go_enter Tryd.func49, Tryd.ntmps49
    go_wp2_with (at_builtin; refine EInt.law (.tmp 5) (.tmp 6) (.slice (some ⟨w.heap.size, 0, none⟩) 0 0) (some ad) l.length c rfl rfl rfl rfl w.heap.size 0 [] (icells l) (Own.lit0 w _ 1) HL.out hsrc.out (icells_one l) (by omega) (by unfold maxLen; omega) (by simp) ?_; intro A' c' w1 hown hg; have HOW := hid hown; have HG := hid hg; clear hown hg)
    go_ret
    have hown := HOW.out
    simp only [Nat.zero_add, List.nil_append] at hown ⊢
    exact ⟨A', c', rfl, ⟨hown.sl (fun g hg => by omega), Wr.own hown⟩, HK0.out.app (Own.lit0 w _ 1) HG.out (fun g h1 h2 => by omega)⟩
def CopyPostX (w : World) (s : Sr) (e : Ending) (w' : World) : Prop := ∃ A' c', e = .returned (.agg (Sr.cells ⟨s.kd, A', c', s.ns⟩).toArray) ∧ SrW w' (· < w.heap.size) ⟨s.kd, A', c', s.ns⟩ ∧ Same w w'
set_option maxRecDepth 100000 in
set_option maxHeartbeats 4000000 in
theorem copyx_any (w : World) (Av : Nat → Prop) (s : Sr) (h : SrOk w Av s) (hn : s.ns.length ≤ 1000000) :
    Calls Tryd.prog 38 #[.agg s.cells.toArray] w (CopyPostX w s) := by
  have hk : Same w ((w.alloc (.cells s.cells.toArray 40)).alloc (.cells #[.int .i64 0, .slice none 0 0] 40)) := ((Keep.refl _ _).alloc _).alloc _
  have ha := (Blk.made w 40 s.cells.toArray).alloc (.cells #[.int .i64 0, .slice none 0 0] 40)
  have hb := Blk.made (w.alloc (.cells s.cells.toArray 40)) 40 #[.int .i64 0, .slice none 0 0]
  rw [World.size_alloc] at hb
  go_enter Tryd.func38, Tryd.ntmps38
  go_upto_region 1 with fail
  generalize ((w.alloc (.cells s.cells.toArray 40)).alloc (.cells #[.int .i64 0, .slice none 0 0] 40)) = w1 at *
  have HA := hid ha
  have HB := hid hb
  have HK := hid hk
  have HCL := hid (fun W (hk2 : Same w1 W) => clonex_any W Av s.A s.c s.ns ((Sl.same h hk).same hk2) hn)
  have s0 : w1.cell? ⟨w.heap.size, 0, none⟩ = some (.int .i64 s.kd) := ha.at_ 0
  have s1 : w1.cell? ⟨w.heap.size, 1, none⟩ = some (.slice s.A s.ns.length s.c) := ha.at_ 1
  clear ha hb h
  refine wp_region_held_drew (S := fun W => W.cell? ⟨w.heap.size, 0, none⟩ = some (.int .i64 s.kd) ∧ W.cell? ⟨w.heap.size, 1, none⟩ = some (.slice s.A s.ns.length s.c)) (by kernel_rfl) ⟨s0, s1⟩ (fun hHeld => ?_)
  refine takeO (i := 0) (v := ?_) (by kernel_rfl) (by kernel_rfl) (by kernel_rfl) (fun c a d v w h => by cases d <;> exact h) (oi := ?_) ?_ ?_ (by assumption) ?_
  rotate_left 2
  · (simp only [List.getElem?_toArray, List.getElem?_cons_zero]; rfl)
  · (refine Or.inl ⟨by rfl, ?_⟩; intro w hSw; (try dsimp only at hSw); go_simp; try with_reducible rfl)
  try simp only [Act.put, List.setIfInBounds_toArray, List.set_cons_zero, List.set_cons_succ]
  refine takeO (i := 1) (v := ?_) (by kernel_rfl) (by kernel_rfl) (by kernel_rfl) (fun c a d v w h => by cases d <;> exact h) (oi := ?_) ?_ ?_ (by assumption) ?_
  rotate_left 2
  · (simp only [List.getElem?_toArray, List.getElem?_cons_succ, List.getElem?_cons_zero]; rfl)
  · (refine Or.inl ⟨by rfl, ?_⟩; intro w hSw; (try dsimp only at hSw); go_simp; try with_reducible rfl)
  try simp only [Act.put, List.setIfInBounds_toArray, List.set_cons_zero, List.set_cons_succ]
  refine takeO (i := 2) (v := ?_) (by kernel_rfl) (by kernel_rfl) (by kernel_rfl) (fun c a d v w h => by cases d <;> exact h) (oi := ?_) ?_ ?_ (by assumption) ?_
  rotate_left 2
  · (simp only [List.getElem?_toArray, List.getElem?_cons_succ, List.getElem?_cons_zero]; rfl)
  · (refine Or.inl ⟨by rfl, ?_⟩; intro w hSw; (try dsimp only at hSw); go_simp; try with_reducible rfl)
  try simp only [Act.put, List.setIfInBounds_toArray, List.set_cons_zero, List.set_cons_succ]
  refine takeO (i := 3) (v := ?_) (by kernel_rfl) (by kernel_rfl) (by kernel_rfl) (fun c a d v w h => by cases d <;> exact h) (oi := ?_) ?_ ?_ (by assumption) ?_
  rotate_left 2
  · (simp only [List.getElem?_toArray, List.getElem?_cons_succ, List.getElem?_cons_zero]; rfl)
  · (refine Or.inl ⟨by rfl, ?_⟩; intro w hSw; (try dsimp only at hSw); go_simp; try with_reducible rfl)
  try simp only [Act.put, List.setIfInBounds_toArray, List.set_cons_zero, List.set_cons_succ]
  refine wpAnyH_ready (rs := [4]) (by kernel_rfl) (by simp) ?_
  refine AllReadyH.cons rfl (fun K hK => ?_) AllReadyH.nil
  go_simp
  refine (HCL.out _ (Keep.refl _ _).drew).mono ?_
  rintro e w3 ⟨A3, c3, rfl, hs3, hk3⟩
  have hk3b : Same w1 w3 := (Keep.refl _ _).drew.then hk3
  have HK3 := hid hk3b
  have HS3 := hid hs3
  have HB3 := hid (HB.out.keep hk3b (fun f => f))
  have HA3 := hid (HA.out.keep hk3b (fun f => f))
  clear hs3 hk3
  refine hK.out _ _ ⟨HA3.out.at_ 0, HA3.out.at_ 1⟩ (fun hHeld1 => ?_)
  clear hK K
  try simp only [Act.put, List.setIfInBounds_toArray, List.set_cons_zero, List.set_cons_succ]
  refine takeO (i := 5) (v := ?_) (by kernel_rfl) (by kernel_rfl) (by kernel_rfl) (fun c a d v w h => by cases d <;> exact h) (oi := ?_) ?_ ?_ (by assumption) ?_
  rotate_left 2
  · (simp only [List.getElem?_toArray, List.getElem?_cons_succ, List.getElem?_cons_zero]; rfl)
  · (refine Or.inl ⟨by rfl, ?_⟩; intro w hSw; (try dsimp only at hSw); go_simp; try with_reducible rfl)
  try simp only [Act.put, List.setIfInBounds_toArray, List.set_cons_zero, List.set_cons_succ]
  refine wpAnyH_ready (rs := [6]) (by kernel_rfl) (by simp) ?_
  refine AllReadyH.cons rfl (fun K hK => ?_) AllReadyH.nil
  refine store_step rfl _ (.tmp 2) (.tmp 8) rfl (w.heap.size + 1) ((#[.int .i64 s.kd, .slice A3 s.ns.length c3])) rfl rfl 40 _ HB3.out (by kernel_rfl) rfl (by simp [Value.oneCell']) ?_
  have HA4 := hid (HA3.out.keep (Keep.row w3 (w.heap.size + 1) #[.int .i64 s.kd, .slice A3 s.ns.length c3]) (fun e => by have e2 : w.heap.size = w.heap.size + 1 := e; omega))
  refine hK.out _ _ ⟨HA4.out.at_ 0, HA4.out.at_ 1⟩ (fun hHeld2 => ?_)
  clear hK K
  try simp only [Act.put, List.setIfInBounds_toArray]
  refine wpAnyH_done (by kernel_rfl) ?_ _
  go_wp2_with fail
  refine bodyPost_ret (results_cell_row rfl _ _ _ _ _ _ _ rfl (Blk.row HB3.out _) Tryd.underlying40 rfl (by kernel_rfl)) rfl ?_
  refine ⟨A3, c3, rfl, ?_, (HK.out.then HK3.out).trans (Keep.row _ _ _) (fun i hi e => by have e2 : i = w.heap.size + 1 := e; omega)⟩
  have hz := HK.out.size
  have h1 := SlW.keep HS3.out (Keep.row w3 (w.heap.size + 1) #[.int .i64 s.kd, .slice A3 s.ns.length c3]) (fun i hi e => by have e2 : i = w.heap.size + 1 := e; have := Blk.lt HB.out; show i < w1.heap.size; omega)
  exact SlW.wide h1 (fun i hi e => by have e2 : i < w.heap.size := e; show i < w1.heap.size; omega)
set_option maxRecDepth 100000 in
set_option maxHeartbeats 8000000 in
theorem elistx_any (w : World) (eb : Nat) (r : Option Nat) (base : Nat) (va vn R : Value) (all nodes : List Nat) (l : List Ad) (h : IsEst w eb r base va vn R all nodes l) (b : Bool) :
    Calls Tryd.prog 42 #[.pointer (some ⟨eb, 0, none⟩), .bool b] w (ListPostX w (keys (told l b))) := by
  obtain ⟨A, c, rfl⟩ := h.row.shape
  have e0 : (w.cell? ⟨eb, 0, none⟩).isSome = true := by rw [h.top.at_ 0]; rfl
  have e2 : w.cell? ⟨eb, 2, none⟩ = some (.slice A l.length c) := h.top.at_ 2
  have HSL := hid (fun W (hk : Same w W) => (Own.sl (Av := fun _ => False) h.row (fun _ _ f => f)).same hk)
  have HEA := hid (fun W (hk : Same w W) a (ha : a ∈ l) => (show SrOk W (fun i => i = eb ∨ some i = r) a.s from Sl.same (h.each a ha).1 hk))
  have HLE := hid (fun a (ha : a ∈ l) => (h.each a ha).2)
  have h64 := h.few
  clear h
  go_enter Tryd.func42, Tryd.ntmps42
  go_wp2_with fail
  clear e0 e2
  go_loopw [5, 13] (fun v i wr => ∃ (k : Nat) (D : Option Addr) (d : Nat) (L : List Sr), k ≤ l.length ∧ i = .int .i64 k ∧ v = .slice D L.length d ∧ Hid (keys L = keys (told (l.take k) b) ∧ Own wr w.heap.size 40 2 (.slice D L.length d) L.length (srcells L) ∧ CopiesX w wr D L ∧ Same w wr)) (fun _ i _ => l.length - (RowKit.intOf i).toNat)
  case atStart => exact ⟨0, none, 0, [], by omega, rfl, rfl, hid ⟨by simp [told, keys], Own.nil _ _ _ _, fun s hs => (by cases hs), Keep.refl _ _⟩⟩
  case round =>
    obtain ⟨k, D, d, L, hk, rfl, rfl, HI⟩ := hrel
    by_cases hlt : k < l.length
    · obtain ⟨a, hka⟩ := get_some hlt
      have hk1 : (k : Int) < (l.length : Int) := by omega
      obtain ⟨b1, o1, rfl, hrow⟩ := ad_row (HSL.out wr HI.out.2.2.2) hka
      have HRW := hid hrow
      have HSN := hid (told_snoc b hka)
      have HOKA := hid (fun W (hk : Same w W) => HEA.out W hk a (List.mem_of_getElem? hka))
      have HL4 := hid (HLE.out a (List.mem_of_getElem? hka))
      have hLk : L.length ≤ k := by
        have := congrArg List.length HI.out.1
        rw [keys_len, keys_len] at this
        have h2 := told_len l b k
        omega
      have hsz := HI.out.2.2.2.size
      clear hrow hka
      go_upto_region 5 with (first
        | (refine wpList_load_mid rfl _ (.tmp 15) rfl _ _ rfl a.cells _ HRW.out Tryd.underlying77 rfl (by kernel_rfl) ?_)
        | (refine wpList_store_row rfl _ (.tmp 7) (.tmp 16) rfl wr.heap.size a.cells.toArray rfl rfl _ _ (Blk.made wr 77 #[.int .i64 0, .slice none 0 0, .bool false]) (by kernel_rfl) rfl (one_toArray (ad_one a)) ?_))
      have hn1 := newA_same wr a
      have hn2 := newA_blk wr a
      unfold newA at hn1 hn2
      generalize ((wr.alloc (.cells #[.int .i64 0, .slice none 0 0, .bool false] 77)).setRow wr.heap.size a.cells.toArray) = wa at *
      have c2 : wa.cell? ⟨wr.heap.size, 2, none⟩ = some (.bool a.ok) := hn2.at_ 2
      have hmid : wa.rangeAt wr.heap.size 0 [.int .i64 a.s.kd, .slice a.s.A a.s.ns.length a.s.c] := fun j u hu => by
        rw [hn2.at_ (0 + j), List.getElem?_toArray, Nat.zero_add]
        match j, hu with
        | 0, hu => exact hu
        | 1, hu => exact hu
        | j + 2, hu => simp at hu
      have HMID := hid hmid
      have HWA := hid (HI.out.2.2.2.then hn1)
      have HOA := hid (HI.out.2.1.keep hn1 (fun _ _ _ f => f))
      have HCA := hid (show CopiesX w wa D L from fun s hs => ⟨SlW.same (HI.out.2.2.1 s hs).1 hn1, (HI.out.2.2.1 s hs).2⟩)
      have hsa : w.heap.size ≤ wa.heap.size := HWA.out.size
      by_cases hq : a.ok = b
      · rw [if_pos hq] at HSN
        have hq2 : (a.ok == b) = true := by simp [hq]
        have HCP : Hid (Calls Tryd.prog 38 #[.agg #[.int .i64 a.s.kd, .slice a.s.A a.s.ns.length a.s.c]] wa (fun e w' => ∃ A' c', e = .returned (.agg #[.int .i64 a.s.kd, .slice A' a.s.ns.length c']) ∧ SrW w' (· < wa.heap.size) ⟨a.s.kd, A', c', a.s.ns⟩ ∧ Same wa w')) :=
          hid ((copyx_any wa _ a.s (HOKA.out wa HWA.out) (by have := HL4.out; omega)).mono (fun e w' ⟨A', c', he, h1, h2⟩ => ⟨A', c', he, h1, h2⟩))
        clear hq hn1 hn2 hmid
        go_wp2_with (refine wpList_load_mid rfl _ (.tmp 22) rfl wr.heap.size 0 rfl [.int .i64 a.s.kd, .slice a.s.A a.s.ns.length a.s.c] _ HMID.out Tryd.underlying40 rfl (by kernel_rfl) ?_)
        (with_reducible refine HCP.out.mono ?_)
        rintro e w5 ⟨A5, c5, rfl, hs5, hk5⟩
        have HS5 := hid hs5
        have HK5 := hid (HWA.out.then hk5)
        have HO5 := hid (HOA.out.keep hk5 (fun _ _ _ f => f))
        have HC5 := hid (show CopiesX w w5 D L from fun s hs => ⟨SlW.same (HCA.out s hs).1 hk5, (HCA.out s hs).2⟩)
        have hs5z := hk5.size
        have HDB := hid (fun g (hg : D.map (·.block) = some g) => HOA.out.lt g (by rw [own_blk HOA.out]; exact hg))
        clear hs5 hk5 c2
        go_wp2_with (at_builtin; refine ESrc.lawW (.tmp 21) (.tmp 25) (.slice D L.length d) (some ⟨w5.heap.size, 0, none⟩) 1 1 rfl rfl rfl rfl w.heap.size L.length _ [.int .i64 a.s.kd, .slice A5 a.s.ns.length c5] (HO5.out.keep ((Keep.refl (fun _ => False) w5).alloc _) (fun _ _ _ f => f)) rfl (fun _ => ⟨_, rfl, src_new rfl⟩) (src_one ⟨a.s.kd, A5, c5, a.s.ns⟩) (by omega) (by unfold maxLen; omega) (by first | omega | (simp; omega)) ?_; intro A7 c7 w7 hown hg hwh; have HOW := hid hown; have HG := hid hg; have HWH := hid hwh; clear hown hg hwh)
        go_roundw
        case rel =>
          refine ⟨k + 1, A7, c7, L ++ [⟨a.s.kd, A5, c5, a.s.ns⟩], by omega, by go_num, by simp, hid ⟨?_, ?_, ?_, ?_⟩⟩
          · rw [HSN.out, keys_snoc, keys_snoc, HI.out.1]; rfl
          · rw [srcells_snoc, show (L ++ [(⟨a.s.kd, A5, c5, a.s.ns⟩ : Sr)]).length = L.length + 1 from by simp]; exact HOW.out
          · have hkp : Keep (fun i => some i = D.map (·.block)) w5 w7 := ((Keep.refl _ w5).alloc _).grown HG.out (fun g e _ => by rw [own_blk HO5.out] at e; exact e.symm)
            have hfr : ∀ i, i < w5.heap.size → some i = A7.map (·.block) → some i = D.map (·.block) := by
              intro i hi e
              rcases HWH.out with h1 | h1
              · rw [e, h1, own_blk HO5.out]
              · rw [h1] at e; injection e with e; simp at e; omega
            intro s hs
            rw [List.mem_append] at hs
            rcases hs with hs | hs
            · obtain ⟨h1, h2⟩ := HC5.out s hs
              have h3 : SrW w5 (fun i => (i < w.heap.size ∨ some i = A7.map (·.block)) ∨ some i = D.map (·.block)) s := SlW.wide h1 (fun i hi e => by
                rcases e with (e | e) | e
                · exact .inl e
                · exact .inr (hfr i hi e)
                · exact .inr e)
              exact ⟨SlW.wide (SlW.keep h3 hkp (fun i _ e => .inr e)) (fun i _ e => .inl e), h2⟩
            · rw [List.mem_singleton.1 hs]
              have h3 : SrW w5 (fun i => (i < w.heap.size ∨ some i = A7.map (·.block)) ∨ some i = D.map (·.block)) ⟨a.s.kd, A5, c5, a.s.ns⟩ := SlW.wide HS5.out (fun i hi e => by
                show i < wa.heap.size
                rcases e with (e | e) | e
                · omega
                · exact HDB.out i (hfr i hi e).symm
                · exact HDB.out i e.symm)
              exact ⟨SlW.wide (SlW.keep h3 hkp (fun i _ e => .inr e)) (fun i _ e => .inl e), HL4.out⟩
          · exact (HK5.out.alloc _).grown HG.out (fun g e hl => by have := HO5.out.block g e; omega)
        case measure => simp [RowKit.intOf]; omega
      · rw [if_neg hq, List.append_nil] at HSN
        have hq2 : (a.ok == b) = false := by simp [hq]
        clear hq hn1 hn2 hmid
        go_wp2_with fail
        go_roundw
        case rel => first | exact ⟨k + 1, D, d, L, by omega, by go_num, rfl, hid ⟨by rw [HSN.out]; exact HI.out.1, HOA.out, HCA.out, HWA.out⟩⟩ | ((repeat apply Exists.intro); refine And.intro ?_ rfl; exact ⟨k + 1, D, d, L, by omega, by go_num, rfl, hid ⟨by rw [HSN.out]; exact HI.out.1, HOA.out, HCA.out, HWA.out⟩⟩)
        case measure => simp [RowKit.intOf]; omega
    · obtain rfl : k = l.length := by omega
      have hI := HI.out
      rw [List.take_of_length_le (Nat.le_refl _)] at hI
      have HI2 := hid hI
      clear hI
      go_wp2_with fail
      go_ret
      exact ⟨D, d, L, HI2.out.1, rfl, HI2.out.2.1, HI2.out.2.2.1, HI2.out.2.2.2⟩
section
variable (w : World) (eb : Nat) (r : Option Nat) (base : Nat) (va vn R : Value) (all nodes : List Nat) (l : List Ad) (h : IsEst w eb r base va vn R all nodes l)
include h
set_option maxRecDepth 100000 in
theorem rejectedx_any : Calls Tryd.prog 19 #[.pointer (some ⟨eb, 0, none⟩)] w (ListPostX w (keys (told l false))) := by
  have HL := hid (elistx_any w eb r base va vn R all nodes l h false)
  unfold ListPostX at HL
  clear h
  generalize keys (told l false) = K at *
  go_enter Tryd.func19, Tryd.ntmps19
  go_wp2_with fail
  (with_reducible refine HL.out.mono ?_)
  rintro e w3 ⟨B, d, L, hK, rfl, ho, hs, hk⟩
  have HF := hid (show _ ∧ _ ∧ _ ∧ _ from ⟨hK, ho, hs, hk⟩)
  clear hK ho hs hk
  go_wp2_with fail
  go_ret
  exact ⟨B, d, L, HF.out.1, rfl, HF.out.2.1, HF.out.2.2.1, HF.out.2.2.2⟩
set_option maxRecDepth 100000 in
theorem acceptedx_any : Calls Tryd.prog 20 #[.pointer (some ⟨eb, 0, none⟩)] w (ListPostX w (keys (told l true))) := by
  have HL := hid (elistx_any w eb r base va vn R all nodes l h true)
  unfold ListPostX at HL
  clear h
  generalize keys (told l true) = K at *
  go_enter Tryd.func20, Tryd.ntmps20
  go_wp2_with fail
  (with_reducible refine HL.out.mono ?_)
  rintro e w3 ⟨B, d, L, hK, rfl, ho, hs, hk⟩
  have HF := hid (show _ ∧ _ ∧ _ ∧ _ from ⟨hK, ho, hs, hk⟩)
  clear hK ho hs hk
  go_wp2_with fail
  go_ret
  exact ⟨B, d, L, HF.out.1, rfl, HF.out.2.1, HF.out.2.2.1, HF.out.2.2.2⟩
end
end Go.Proofs.YtafpcffhkbeloaaDoor

import Derived.Test.YtafpcffhkbeloaaDoorLoM
namespace Go.Proofs.YtafpcffhkbeloaaDoor
open Go.RowKit

theorem results_tct {P : Program} {fn : Func} {p q r : Tmp} {ty : TypeId} (h : fn.results = #[.tmp q, .cell p ty, .tmp r]) (tmps : Array Value) (w : World) (g : Nat) (t : TypeId) (cs : Array Value) (fr : Nat × Nat) (d : TypeDesc) (v v2 : Value)
    (hp : tmps.getD p undef = .pointer (some ⟨g, 0, none⟩)) (hq : tmps.getD q undef = v) (hr : tmps.getD r undef = v2) (hg : w.heap[g]? = some (.cells cs t fr))
    (hu : P.underlying ty = some d) (hd : (match d with | .struct _ | .array _ _ => true | _ => false) = true) (hi : (P.info? ty).map (·.size) = some cs.size) :
    (results fn tmps).run P w = .ok (.tuple #[v, .agg cs, v2]) w := by
  have hp' : tmps[p]?.getD undef = .pointer (some ⟨g, 0, none⟩) := by simpa using hp
  have hq' : tmps[q]?.getD undef = v := by simpa using hq
  have hr' : tmps[r]?.getD undef = v2 := by simpa using hr
  simp [results, h, hp', hq', hr', asAddr, run_loadVar_row w g t ty cs fr d hg hu hd hi]
/-- ints do not lie in a block that holds none -/
theorem Sl.off {w : World} {Av : Nat → Prop} {A : Option Addr} {l : List Int} (h : Sl w Av 1 A l.length (icells l)) {g : Nat} {t : TypeId} {cs : Array Value} (hb : Blk w g t cs) (hc : ∀ (i : Nat) (x : Int), cs[i]? ≠ some (Value.int .i64 x)) : Sl w (fun i => Av i ∨ i = g) 1 A l.length (icells l) :=
  ⟨h.len, fun hn => by
    obtain ⟨b, off, e, h1, h2, h3⟩ := h.at_ hn
    refine ⟨b, off, e, h1, fun hor => ?_, h3⟩
    rcases hor with ha | rfl
    · exact h2 ha
    · cases l with
      | nil => simp at hn
      | cons a l =>
        have := h3 0 (.int .i64 a) rfl
        rw [hb.at_] at this
        exact hc _ a this⟩
theorem IsEst.far {w w' : World} {eb : Nat} {r : Option Nat} {base : Nat} {va vn R : Value} {all nodes : List Nat} {l : List Ad} (h : IsEst w eb r base va vn R all nodes l) {g : Nat} {t : TypeId} {cs : Array Value} (hb : Blk w g t cs) (hk : Keep (· = g) w w')
    (h1 : t ≠ 69) (h2 : t ≠ 77) (h3 : t ≠ 72) (hc : ∀ (i : Nat) (x : Int), cs[i]? ≠ some (Value.int .i64 x)) : IsEst w' eb r base va vn R all nodes l := by
  have e1 : eb ≠ g := blk_ne h.top hb (Ne.symm h1)
  have e2 : ∀ x, R.ownBlock = some x → x ≠ g := by
    intro x hx
    obtain ⟨cur, hcur⟩ := own_row h.row hx
    exact blk_ne hcur hb (Ne.symm h2)
  exact ⟨h.top.keep hk e1, h.all_.far hb hk h3, h.nodes_.far hb hk h3, h.row.keepB hk e2, h.own, fun a ha => ⟨Sl.wide (Sl.keep (Sl.off (h.each a ha).1 hb hc) hk (fun i _ e => Or.inr e)) (fun i _ e => Or.inl e), (h.each a ha).2⟩, h.few, h.lo⟩
theorem EstIs.far {w w' : World} {eb : Nat} {r : Option Nat} {base : Nat} {all nodes : List Nat} {L : List (Ks × Bool)} (h : EstIs w eb r base all nodes L) {g : Nat} {t : TypeId} {cs : Array Value} (hb : Blk w g t cs) (hk : Keep (· = g) w w')
    (h1 : t ≠ 69) (h2 : t ≠ 77) (h3 : t ≠ 72) (hc : ∀ (i : Nat) (x : Int), cs[i]? ≠ some (Value.int .i64 x)) : EstIs w' eb r base all nodes L := by
  obtain ⟨va, vn, R, l, g1, g2⟩ := h
  exact ⟨va, vn, R, l, g1.far hb hk h1 h2 h3 hc, g2⟩
theorem EstIs.ne {w : World} {eb : Nat} {r : Option Nat} {base : Nat} {all nodes : List Nat} {L : List (Ks × Bool)} (h : EstIs w eb r base all nodes L) {g : Nat} {t : TypeId} {cs : Array Value} (hb : Blk w g t cs) (h1 : t ≠ 69) (h2 : t ≠ 77) : ¬ (g = eb ∨ some g = r) := by
  obtain ⟨va, vn, R, l, g1, g2⟩ := h
  rintro (e | e)
  · exact blk_ne hb g1.top h1 e
  · obtain ⟨cur, hcur⟩ := own_row g1.row (g1.own.trans e.symm)
    exact blk_ne hb hcur h2 rfl
theorem sp_int (p : Sp) : ∀ (i : Nat) (x : Int), p.cells.toArray[i]? ≠ some (.int .i64 x) := by
  intro i x
  rcases i with _ | _ | _ | _ | i <;> simp [Sp.cells, spotS]
/-- the two sides stay side by side -/
theorem spot_turn {w w' : World} {eb : Nat} {r r' : Option Nat} {E : Nat → Prop} {p : Sp} {all nodes : List Nat} {L : List (Ks × Bool)} (h : SpotIs w (fun i => i = eb ∨ some i = r ∨ E i) p all nodes L) (hk : Keep (fun i => i = eb ∨ some i = r) w w') (hr : ∀ g, r' = some g → r = some g ∨ w.heap.size ≤ g) :
    SpotIs w' (fun i => i = eb ∨ some i = r' ∨ E i) p all nodes L := by
  have h1 : SpotIs w (fun i => i = eb ∨ some i = r ∨ E i ∨ w.heap.size ≤ i) p all nodes L := h.wide (fun i hi e => by
    rcases e with e | e | e | e
    · exact .inl e
    · exact .inr (.inl e)
    · exact .inr (.inr e)
    · omega)
  refine (h1.keep hk (fun i _ e => e.elim .inl (fun e => .inr (.inl e)))).wide (fun i _ e => ?_)
  rcases e with e | e | e
  · exact .inl e
  · rcases hr i e.symm with h | h
    · exact .inr (.inl h.symm)
    · exact .inr (.inr (.inr h))
  · exact .inr (.inr (.inl e))
def RunPost (w : World) (ws : List Nat) (ks : List Ks) (e : Ending) (w' : World) : Prop :=
  (ws = zeroW ∧ e = .returned (.tuple #[.pointer none, .agg #[.slice none 0 0, .slice none 0 0, .slice none 0 0, .slice none 0 0], .bool false]) ∧ Same w w') ∨
  (ws ≠ zeroW ∧ ∃ eb r base p, e = .returned (.tuple #[.pointer (some ⟨eb, 0, none⟩), .agg p.cells.toArray, .bool true]) ∧ EstIs w' eb r base ws (runS ws ks).1 (runS ws ks).2 ∧ w.heap.size ≤ base ∧ SpotIs w' (fun i => i = eb ∨ some i = r) p ws (runS ws ks).1 (runS ws ks).2 ∧ Same w w')
/-- the loop's state: the pair after some sources -/
def PairAt (w wr : World) (E : Nat → Prop) (eb base xb : Nat) (ws : List Nat) (ks : List Ks) : Prop := ∃ r p, Blk wr xb 36 p.cells.toArray ∧ EstIs wr eb r base ws (runS ws ks).1 (runS ws ks).2 ∧ SpotIs wr (fun i => i = eb ∨ some i = r ∨ E i) p ws (runS ws ks).1 (runS ws ks).2 ∧ Same w wr
theorem spot0 {w : World} {Av : Nat → Prop} {all : List Int} {A : Option Addr} {c : Nat} (h : Sl w Av 1 A (setL all).length (icells (setL all))) : SpotIs w Av ⟨A, c, setL all, A, c, setL all, none, 0, [], none, 0⟩ (ofW all) (runS (ofW all) []).1 (runS (ofW all) []).2 :=
  ⟨[], ⟨h, h, Srs.nil _ _, Sl.nil _ _ _ _⟩, setL_eq all, setL_eq all, rfl, rfl⟩
theorem est0 {w : World} {eb base : Nat} {v : Value} {ws : List Nat} (h : IsEst w eb none base v v (.slice none 0 0) ws ws []) : EstIs w eb none base ws (runS ws []).1 (runS ws []).2 := ⟨_, _, _, _, h, rfl⟩
set_option maxRecDepth 100000 in
set_option maxHeartbeats 8000000 in
theorem run_any (w : World) (A : Option Addr) (c : Nat) (all : List Int) (ha : Sl w (fun _ => False) 1 A all.length (icells all)) (hal : all.length ≤ 1000) (X : Option Addr) (cx : Nat) (l : List Sr) (hl : Srs w (fun _ => False) X l) (hn : ∀ s ∈ l, s.ns.length ≤ 1000) (hlen : l.length ≤ 1000000) :
    Calls Tryd.prog 18 #[.slice A all.length c, .slice X l.length cx] w (RunPost w (ofW all) (keys l)) := by
  have hk : Same w (w.alloc (.cells #[.slice none 0 0, .slice none 0 0, .slice none 0 0, .slice none 0 0] 36)) := (Keep.refl _ _).alloc _
  have hb := Blk.made w 36 #[.slice none 0 0, .slice none 0 0, .slice none 0 0, .slice none 0 0]
  generalize hw1 : (w.alloc (.cells #[.slice none 0 0, .slice none 0 0, .slice none 0 0, .slice none 0 0] 36)) = w1 at *
  have HK := hid hk
  have HB := hid hb
  have HOF := hid (of_any w1 _ A all c (ha.same hk) (by omega))
  unfold SetPost at HOF
  have HA := hid (fun W (hk2 : Same w1 W) => (ha.same hk).same hk2)
  have HS := hid (fun W (hk2 : Same w W) => Srs.same (hl.wide (Av' := fun i => w.heap.size ≤ i) (fun i hi e => absurd hi (Nat.not_lt.2 e))) hk2)
  have HN := hid hn
  have hlt1 : w.heap.size < w1.heap.size := hb.lt
  clear hk hb ha hl hn
  go_enter Tryd.func18, Tryd.ntmps18
  go_upto_region 1 with fail
  try rw [hw1]
  clear hw1
  go_wp2_with fail
  (with_reducible refine HOF.out.mono ?_)
  rintro e w2 ⟨v2, rfl, hs2, hk2⟩
  have HNW := hid (new_any w2 v2 _ hs2)
  unfold NewPost at HNW
  have HK2 := hid hk2
  clear hs2 hk2 HOF
  go_wp2_with fail
  (with_reducible refine HNW.out.mono ?_)
  rintro e w3 (⟨hz, rfl, hk3⟩ | ⟨hz, eb, v3, rfl, hE3, hlo3, hk3⟩)
  · have HK3 := hid (HK2.out.then hk3)
    have HZ := hid hz
    have HRN := hid (rnew_any w3 _ A c all (HA.out _ HK3.out) hal)
    unfold RNewPost at HRN
    clear hk3 hz HNW
    go_wp2_with fail
    (with_reducible refine HRN.out.mono ?_)
    rintro e w4 (⟨hz4, rfl, hk4⟩ | ⟨hz4, A4, c4, rfl, hs4, hk4⟩)
    · have HK4 := hid (HK3.out.then hk4)
      have HB4 := hid (HB.out.keep HK4.out (fun f => f))
      clear hk4 hz4 HRN
      go_upto_region 4 with (refine wpList_store_row rfl _ (.tmp 9) (.tmp 22) rfl w4.heap.size (spotV none 0 0 none 0 0 none 0 0 none 0).toArray rfl rfl 36 _ (Blk.made w4 _ _) (by kernel_rfl) rfl (one_toArray (spotV_one _ _ _ _ _ _ _ _ _ _ _)) ?_)
      have hb5 := Blk.row (Blk.made w4 36 #[.slice none 0 0, .slice none 0 0, .slice none 0 0, .slice none 0 0]) (spotV none 0 0 none 0 0 none 0 0 none 0).toArray
      have hk5 : Same w4 (((w4.alloc (.cells #[.slice none 0 0, .slice none 0 0, .slice none 0 0, .slice none 0 0] 36)).setRow w4.heap.size (spotV none 0 0 none 0 0 none 0 0 none 0).toArray)) := ((Keep.refl _ w4).alloc _).trans (Keep.row _ _ _) (fun i hi e => by have e2 : i = w4.heap.size := e; omega)
      generalize (((w4.alloc (.cells #[.slice none 0 0, .slice none 0 0, .slice none 0 0, .slice none 0 0] 36)).setRow w4.heap.size (spotV none 0 0 none 0 0 none 0 0 none 0).toArray)) = w5 at *
      have HB5 := hid hb5
      have HR5 := hid (HB4.out.keep hk5 (fun f => f))
      have HK5 := hid (HK4.out.then hk5)
      clear hb5 hk5
      have HBD := hid (Blk.drew HB5.out)
      have HRD := hid (Blk.drew HR5.out)
      have hneq : w4.heap.size ≠ w.heap.size := by have h1 := HB4.out.lt; omega
      have HSD := hid (Blk.keep HBD.out (Keep.row _ w.heap.size ((spotV none 0 0 none 0 0 none 0 0 none 0).toArray)) hneq)
      refine wp_region_held_drew (S := fun W => Blk W w4.heap.size 36 (spotV none 0 0 none 0 0 none 0 0 none 0).toArray) (by kernel_rfl) HBD.out (fun hHeld => ?_)
      refine takeL (i := 0) (by kernel_rfl) (by kernel_rfl) (by kernel_rfl) (fun c a d v w h => by cases d <;> exact h) (oi := ?_) ?_ _ (.tmp 9) ?_ ?_ (w4.heap.size) ?_ 36 ((spotV none 0 0 none 0 0 none 0 0 none 0).toArray) (0, 0) _ (fun W hW => hW) Tryd.underlying36 rfl (by kernel_rfl) (by assumption) ?_
      rotate_left 1
      · (simp only [List.getElem?_toArray, List.getElem?_cons_zero]; rfl)
      · rfl
      · rfl
      · rfl
      try simp only [Act.put, List.setIfInBounds_toArray, List.set_cons_zero, List.set_cons_succ]
      refine takeO (i := 1) (v := ?_) (by kernel_rfl) (by kernel_rfl) (by kernel_rfl) (fun c a d v w h => by cases d <;> exact h) (oi := ?_) ?_ ?_ (by assumption) ?_
      rotate_left 2
      · (simp only [List.getElem?_toArray, List.getElem?_cons_succ, List.getElem?_cons_zero]; rfl)
      · (refine Or.inl ⟨by rfl, ?_⟩; intro w hSw; (try dsimp only at hSw); go_simp; try with_reducible rfl)
      try simp only [Act.put, List.setIfInBounds_toArray, List.set_cons_zero, List.set_cons_succ]
      refine wpAnyH_ready (rs := [2]) (by kernel_rfl) (by simp) ?_
      refine AllReadyH.cons rfl (fun K hK => ?_) AllReadyH.nil
      refine store_step rfl _ (.tmp 5) (.tmp 34) rfl (w.heap.size) ((spotV none 0 0 none 0 0 none 0 0 none 0).toArray) rfl rfl 36 _ HRD.out (by kernel_rfl) rfl (one_toArray (spotV_one _ _ _ _ _ _ _ _ _ _ _)) ?_
      refine hK.out _ _ HSD.out (fun hHeld1 => ?_)
      clear hK K
      try simp only [Act.put, List.setIfInBounds_toArray]
      refine takeO (i := 3) (v := ?_) (by kernel_rfl) (by kernel_rfl) (by kernel_rfl) (fun c a d v w h => by cases d <;> exact h) (oi := ?_) ?_ ?_ (by assumption) ?_
      rotate_left 2
      · (simp only [List.getElem?_toArray, List.getElem?_cons_succ, List.getElem?_cons_zero]; rfl)
      · (refine Or.inl ⟨by rfl, ?_⟩; intro w hSw; (try dsimp only at hSw); go_simp; try with_reducible rfl)
      try simp only [Act.put]
      refine wpAnyH_done (by kernel_rfl) ?_ _
      go_wp2_with fail
      refine bodyPost_ret (results_tct rfl _ _ _ _ _ _ _ _ _ rfl rfl rfl (Blk.row HR5.out _) Tryd.underlying36 rfl (by kernel_rfl)) rfl ?_
      exact .inl ⟨HZ.out, rfl, HK.out.trans ((HK5.out.wide (T := fun i => i = w.heap.size) (fun _ _ f => f.elim)).drew.trans (Keep.row _ _ _) (fun i _ e => e)) (fun i hi e => by have e2 : i = w.heap.size := e; omega)⟩
    · exact absurd (by rw [setL_eq, HZ.out]; show (elemsW zeroW).map Int.ofNat = []; rw [elems_zero]; rfl) hz4
  · have HK3 := hid (HK2.out.then hk3)
    have HZ := hid hz
    have HE3 := hid hE3
    have HLO3 := hid hlo3
    have HRN := hid (rnew_any w3 _ A c all (HA.out _ HK3.out) hal)
    unfold RNewPost at HRN
    clear hk3 hz hE3 hlo3 HNW
    go_wp2_with fail
    (with_reducible refine HRN.out.mono ?_)
    rintro e w4 (⟨hz4, rfl, hk4⟩ | ⟨hz4, A4, c4, rfl, hs4, hk4⟩)
    · exact absurd ((elemsI_nil (ofW_ok all)).1 (by rw [← setL_eq]; exact hz4)) HZ.out
    · have hcell : (spotV A4 (setL all).length c4 A4 (setL all).length c4 none 0 0 none 0).toArray = Array.mk (Sp.cells ⟨A4, c4, setL all, A4, c4, setL all, none, 0, [], none, 0⟩) := rfl
      rw [hcell]
      have HK4 := hid (HK3.out.then hk4)
      have HS4 := hid (spot0 (c := c4) hs4)
      have HE4 := hid (HE3.out.same hk4)
      have HB4 := hid (HB.out.keep HK4.out (fun f => f))
      have HHE := hid (show eb < w3.heap.size from HE3.out.top.lt)
      have HH34 := hid hk4.size
      clear hs4 hk4 hz4 HRN hcell
      generalize (⟨A4, c4, setL all, A4, c4, setL all, none, 0, [], none, 0⟩ : Sp) = p0 at *
      go_upto_region 5 with (refine wpList_store_row rfl _ (.tmp 9) (.tmp 22) rfl w4.heap.size p0.cells.toArray rfl rfl 36 _ (Blk.made w4 _ _) (by kernel_rfl) rfl (one_toArray (sp_one _)) ?_)
      have hb5 := Blk.row (Blk.made w4 36 #[.slice none 0 0, .slice none 0 0, .slice none 0 0, .slice none 0 0]) p0.cells.toArray
      have hk5 : Same w4 (((w4.alloc (.cells #[.slice none 0 0, .slice none 0 0, .slice none 0 0, .slice none 0 0] 36)).setRow w4.heap.size p0.cells.toArray)) := ((Keep.refl _ w4).alloc _).trans (Keep.row _ _ _) (fun i hi e => by have e2 : i = w4.heap.size := e; omega)
      obtain ⟨xb, hxb⟩ : ∃ x, x = w4.heap.size := ⟨_, rfl⟩
      rw [← hxb] at hb5 hk5 ⊢
      generalize (((w4.alloc (.cells #[.slice none 0 0, .slice none 0 0, .slice none 0 0, .slice none 0 0] 36)).setRow xb p0.cells.toArray)) = w5 at *
      have HKW := hid (show Same w w4 from HK.out.then HK4.out)
      have HKX := hid (show w.heap.size < w3.heap.size from by have := HK3.out.size; omega)
      have HP5 := hid (show PairAt w w5 (fun i => i = xb ∨ i = w.heap.size) eb w2.heap.size xb (ofW all) (keys (l.take 0)) from
        ⟨none, p0, hb5, est0 (HE4.out.same hk5), ((HS4.out.wide (Av' := fun i => i = eb ∨ some i = none ∨ (i = xb ∨ i = w.heap.size)) (fun i hi e => by
          rcases e with e | e | e
          · rw [e]; exact HHE.out
          · cases e
          · have := HKX.out; show i < w3.heap.size; omega)).same hk5), HKW.out.then hk5⟩)
      have HXB := hid (show w.heap.size ≤ xb ∧ w.heap.size ≤ w2.heap.size ∧ w.heap.size < xb from by
        have h1 := HKW.out.size
        have h2 := HK.out.size
        have h3 := HK2.out.size
        have h4 := HB4.out.lt
        omega)
      have HHB := hid (show Blk w5 w.heap.size 36 #[.slice none 0 0, .slice none 0 0, .slice none 0 0, .slice none 0 0] from HB4.out.keep hk5 (fun f => f))
      clear hb5 hk5 hxb HE4 HS4 HE3
      go_wp2_with fail
      go_loopw [37] (fun i wr => ∃ (k : Nat), k ≤ l.length ∧ i = .int .i64 k ∧ Hid (PairAt w wr (fun i => i = xb ∨ i = w.heap.size) eb w2.heap.size xb (ofW all) (keys (l.take k)) ∧ Blk wr w.heap.size 36 #[.slice none 0 0, .slice none 0 0, .slice none 0 0, .slice none 0 0])) (fun i _ => l.length - (RowKit.intOf i).toNat)
      case atStart => exact ⟨0, by omega, rfl, hid ⟨HP5.out, HHB.out⟩⟩
      case round =>
        obtain ⟨k, hk, rfl, HI⟩ := hrel
        obtain ⟨⟨r, p, hx, hE, hS, hK⟩, hR⟩ := HI.out
        by_cases hlt : k < l.length
        · obtain ⟨s, hks⟩ := get_some hlt
          have hk1 : (k : Int) < (l.length : Int) := by omega
          obtain ⟨b1, o1, rfl, hbl, hrow, c0, c1, hso, _⟩ := Srs.at_ (HS.out wr hK) hks
          have HSN := hid (show runS (ofW all) (keys (l.take (k + 1))) = stepS (runS (ofW all) (keys (l.take k))) s.key from by
            have := runS_snoc (ofW all) (keys l) (keys_at hks)
            rwa [show keys (l.take (k + 1)) = (keys l).take (k + 1) from by simp [keys], show keys (l.take k) = (keys l).take k from by simp [keys]])
          have HN4 := hid (HN.out s (List.mem_of_getElem? hks))
          have HX := hid hx
          have HE := hid hE
          have HSS := hid hS
          have HKR := hid hK
          have HRR := hid hR
          have HSO := hid hso
          clear hrow hks hx hE hS hK hR hso
          go_upto_region 8 with fail
          have ha := Blk.made wr 40 #[.int .i64 s.kd, .slice s.A s.ns.length s.c]
          have hka : Same wr (wr.alloc (.cells #[.int .i64 s.kd, .slice s.A s.ns.length s.c] 40)) := (Keep.refl _ _).alloc _
          generalize (wr.alloc (.cells #[.int .i64 s.kd, .slice s.A s.ns.length s.c] 40)) = wa at *
          have HYA := hid ha
          have HKA := hid hka
          have HADD := hid (show Calls Tryd.prog 14 #[.pointer (some ⟨eb, 0, none⟩), .agg #[.int .i64 s.kd, .slice s.A s.ns.length s.c]] wa _ from add_is wa eb r w2.heap.size (ofW all) _ _ (HE.out.same hka) s (fun i => w.heap.size ≤ i) (Sl.same HSO.out hka) (by have := HN4.out; omega))
          clear ha hka c0 c1
          go_upto_region 9 with (first
            | (refine wpList_load_row rfl _ (.tmp 12) rfl wr.heap.size rfl _ #[.int .i64 s.kd, .slice s.A s.ns.length s.c] (0, 0) _ HYA.out Tryd.underlying40 rfl (by kernel_rfl) ?_)
            | ((with_reducible refine HADD.out.mono ?_); rintro e w6 ⟨rfl, r6, hE6, hk6, hr6⟩; have HE6 := hid hE6; have HK6 := hid hk6; have HR6 := hid hr6; clear hE6 hk6 hr6))
          have HX6 := hid (Blk.keep (Blk.keep HX.out HKA.out (fun f => f)) HK6.out ((HE.out.same HKA.out).ne (Blk.keep HX.out HKA.out (fun f => f)) (by decide) (by decide)))
          have HY6 := hid (Blk.keep HYA.out HK6.out ((HE.out.same HKA.out).ne HYA.out (by decide) (by decide)))
          have HRR6 := hid (Blk.keep (Blk.keep HRR.out HKA.out (fun f => f)) HK6.out ((HE.out.same HKA.out).ne (Blk.keep HRR.out HKA.out (fun f => f)) (by decide) (by decide)))
          have HS6 := hid (spot_turn (HSS.out.same HKA.out) HK6.out HR6.out)
          have HKW6 := hid (show Same w w6 from (HKR.out.then HKA.out).trans HK6.out (fun i hi e => by
            have h1 := HE.out.lt
            have h2 := HXB.out
            rcases e with e | e
            · omega
            · have := h1.2.2 i e.symm; omega))
          have HSO6 := hid (Sl.wide (Av' := fun i => i = eb ∨ some i = r6 ∨ (i = xb ∨ i = w.heap.size)) (Sl.keep (Sl.same HSO.out HKA.out) HK6.out (fun i _ e => by
            have h1 := HE.out.lt
            have h2 := HXB.out
            show w.heap.size ≤ i
            rcases e with e | e
            · omega
            · have := (h1.2.2 i e.symm).1; omega)) (fun i _ e => by
            have h1 := HE6.out.lt
            have h2 := HXB.out
            show w.heap.size ≤ i
            rcases e with e | e | e | e
            · omega
            · have := (h1.2.2 i e.symm).1; omega
            · omega
            · omega))
          have HTL := hid (show Calls Tryd.prog 15 #[.agg p.cells.toArray, .agg #[.int .i64 s.kd, .slice s.A s.ns.length s.c]] w6 _ from tell_is w6 (fun i => i = eb ∨ some i = r6 ∨ (i = xb ∨ i = w.heap.size)) p (ofW all) _ _ HS6.out (runS_ok (ofW_ok all) _) (HE.out.few.1) s HSO6.out HN4.out)
          go_upto_region 10 with (first
            | (refine wpList_load_row rfl _ (.tmp 9) rfl xb rfl _ p.cells.toArray (0, 0) _ HX6.out Tryd.underlying36 rfl (by kernel_rfl) ?_)
            | (refine wpList_load_row rfl _ (.tmp 12) rfl wr.heap.size rfl _ #[.int .i64 s.kd, .slice s.A s.ns.length s.c] (0, 0) _ HY6.out Tryd.underlying40 rfl (by kernel_rfl) ?_)
            | ((with_reducible refine HTL.out.mono ?_); rintro e w7 ⟨p7, rfl, hS7, hk7⟩; have HS7 := hid hS7; have HK7 := hid hk7; have HX7 := hid (HX6.out.keep hk7 (fun f => f)); clear hS7 hk7)
            | (refine wpList_store_row rfl _ (.tmp 9) (.tmp 48) rfl xb p7.cells.toArray rfl rfl 36 _ HX7.out (by kernel_rfl) rfl (one_toArray (sp_one _)) ?_))
          have hk8 := Keep.row w7 xb p7.cells.toArray
          have hb8 := Blk.row HX7.out p7.cells.toArray
          generalize (w7.setRow xb p7.cells.toArray) = w8 at *
          have HFIN := hid (show PairAt w w8 (fun i => i = xb ∨ i = w.heap.size) eb w2.heap.size xb (ofW all) (keys (l.take (k + 1))) ∧ Blk w8 w.heap.size 36 #[.slice none 0 0, .slice none 0 0, .slice none 0 0, .slice none 0 0] from by
            refine ⟨⟨r6, p7, hb8, ?_, ?_, ?_⟩, ?_⟩
            · rw [HSN.out]; exact (HE6.out.same HK7.out).far HX7.out hk8 (by decide) (by decide) (by decide) (sp_int p)
            · rw [HSN.out]
              refine (HS7.out.wide (Av' := fun i => i = eb ∨ some i = r6 ∨ (i = xb ∨ i = w.heap.size)) (fun i hi e => ⟨?_, e⟩)).keep hk8 (fun i _ e => Or.inr (Or.inr (Or.inl e)))
              have h1 := HE6.out.lt
              have h2 := HX6.out.lt
              rcases e with e | e | e
              · omega
              · exact (h1.2.2 i e.symm).2
              · have h3 := HRR6.out.lt; omega
            · exact (HKW6.out.then HK7.out).trans hk8 (fun i hi e => by have e2 : i = xb := e; have := HXB.out; omega)
            · exact Blk.keep (Blk.keep HRR6.out HK7.out (fun f => f)) hk8 (by have := HXB.out; omega))
          clear hk8 hb8
          go_wp2_with fail
          go_roundw
          case rel => exact ⟨k + 1, by omega, by go_num, HFIN⟩
          case measure => simp only [RowKit.intOf]; omega
        · obtain rfl : k = l.length := by omega
          rw [List.take_length] at hE hS
          have HE := hid hE
          have HSS := hid hS
          have HKR := hid hK
          have HB5 := hid hx
          have HR5 := hid hR
          clear hx hE hS hK hR
          go_upto_region 11 with fail
          have HBD := hid (Blk.drew HB5.out)
          have HRD := hid (Blk.drew HR5.out)
          have hneq : xb ≠ w.heap.size := by have h1 := HXB.out; omega
          have HSD := hid (Blk.keep HBD.out (Keep.row _ w.heap.size (p.cells.toArray)) hneq)
          refine wp_region_held_drew (S := fun W => Blk W xb 36 p.cells.toArray) (by kernel_rfl) HBD.out (fun hHeld => ?_)
          refine takeO (i := 0) (v := ?_) (by kernel_rfl) (by kernel_rfl) (by kernel_rfl) (fun c a d v w h => by cases d <;> exact h) (oi := ?_) ?_ ?_ (by assumption) ?_
          rotate_left 2
          · (simp only [List.getElem?_toArray, List.getElem?_cons_zero]; rfl)
          · (refine Or.inl ⟨by rfl, ?_⟩; intro w hSw; (try dsimp only at hSw); go_simp; try with_reducible rfl)
          try simp only [Act.put, List.setIfInBounds_toArray, List.set_cons_zero, List.set_cons_succ]
          refine takeL (i := 1) (by kernel_rfl) (by kernel_rfl) (by kernel_rfl) (fun c a d v w h => by cases d <;> exact h) (oi := ?_) ?_ _ (.tmp 9) ?_ ?_ (xb) ?_ 36 (p.cells.toArray) (0, 0) _ (fun W hW => hW) Tryd.underlying36 rfl (by kernel_rfl) (by assumption) ?_
          rotate_left 1
          · (simp only [List.getElem?_toArray, List.getElem?_cons_succ, List.getElem?_cons_zero]; rfl)
          · rfl
          · rfl
          · rfl
          try simp only [Act.put, List.setIfInBounds_toArray, List.set_cons_zero, List.set_cons_succ]
          refine takeO (i := 2) (v := ?_) (by kernel_rfl) (by kernel_rfl) (by kernel_rfl) (fun c a d v w h => by cases d <;> exact h) (oi := ?_) ?_ ?_ (by assumption) ?_
          rotate_left 2
          · (simp only [List.getElem?_toArray, List.getElem?_cons_succ, List.getElem?_cons_zero]; rfl)
          · (refine Or.inl ⟨by rfl, ?_⟩; intro w hSw; (try dsimp only at hSw); go_simp; try with_reducible rfl)
          try simp only [Act.put, List.setIfInBounds_toArray, List.set_cons_zero, List.set_cons_succ]
          refine wpAnyH_ready (rs := [3]) (by kernel_rfl) (by simp) ?_
          refine AllReadyH.cons rfl (fun K hK => ?_) AllReadyH.nil
          refine store_step rfl _ (.tmp 5) (.tmp 53) rfl (w.heap.size) (p.cells.toArray) rfl rfl 36 _ HRD.out (by kernel_rfl) rfl (one_toArray (sp_one _)) ?_
          refine hK.out _ _ HSD.out (fun hHeld1 => ?_)
          clear hK K
          try simp only [Act.put, List.setIfInBounds_toArray]
          refine takeO (i := 4) (v := ?_) (by kernel_rfl) (by kernel_rfl) (by kernel_rfl) (fun c a d v w h => by cases d <;> exact h) (oi := ?_) ?_ ?_ (by assumption) ?_
          rotate_left 2
          · (simp only [List.getElem?_toArray, List.getElem?_cons_succ, List.getElem?_cons_zero]; rfl)
          · (refine Or.inl ⟨by rfl, ?_⟩; intro w hSw; (try dsimp only at hSw); go_simp; try with_reducible rfl)
          try simp only [Act.put]
          refine wpAnyH_done (by kernel_rfl) ?_ _
          go_wp2_with fail
          refine bodyPost_ret (results_tct rfl _ _ _ _ _ _ _ _ _ rfl rfl rfl (Blk.row HR5.out _) Tryd.underlying36 rfl (by kernel_rfl)) rfl ?_
          have hk9 := (Keep.refl (fun i => i = w.heap.size) wr).drew.trans (Keep.row wr.drew w.heap.size p.cells.toArray) (fun i _ e => e)
          exact .inr ⟨HZ.out, eb, r, w2.heap.size, p, rfl, HE.out.far HR5.out (hk9) (by decide) (by decide) (by decide) (fun i x => by rcases i with _ | _ | _ | _ | i <;> simp), HXB.out.2.1,
            (HSS.out.keep hk9 (fun i _ e => Or.inr (Or.inr (Or.inr e)))).wide (fun i _ e => e.elim Or.inl (fun e => Or.inr (Or.inl e))), HKR.out.trans hk9 (fun i hi e => by have e2 : i = w.heap.size := e; omega)⟩
end Go.Proofs.YtafpcffhkbeloaaDoor

import Derived.Test.YtafpcffhkbeloaaDoorLoF
namespace Go.Proofs.YtafpcffhkbeloaaDoor
open Go.RowKit

/-! ## The estimate's own list of sources -/
def kz : List Value := [.int .i64 0, .slice none 0 0, .bool false]
theorem ad_one (a : Ad) : ∀ u ∈ a.cells, u.oneCell' = true := by
  intro u hu
  simp only [Ad.cells, List.mem_cons, List.not_mem_nil, or_false] at hu
  rcases hu with rfl | rfl | rfl <;> rfl
theorem ad_row {w : World} {Av : Nat → Prop} {A : Option Addr} {l : List Ad} (h : Sl w Av 3 A l.length (adcells l)) {k : Nat} {a : Ad} (ha : l[k]? = some a) : ∃ b off, A = some ⟨b, off, none⟩ ∧ w.rangeAt b (off + k * 3) a.cells := by
  have hk := (List.getElem?_eq_some_iff.1 ha).1
  obtain ⟨b, off, e, _, _, hr⟩ := h.at_ (by omega)
  refine ⟨b, off, e, fun j u hu => ?_⟩
  have hj := (List.getElem?_eq_some_iff.1 hu).1
  have := hr (k * 3 + j) u (by rw [show (adcells l)[k * 3 + j]? = (l[k]?).bind (fun a => a.cells[j]?) from flat_get Ad.cells 3 (fun _ => rfl) l k j hj, ha]; exact hu)
  rwa [Nat.add_assoc]
def newA (w : World) (a : Ad) : World := (w.alloc (.cells #[.int .i64 0, .slice none 0 0, .bool false] 77)).setRow w.heap.size a.cells.toArray
theorem newA_same (w : World) (a : Ad) : Same w (newA w a) := ((Keep.refl _ w).alloc _).trans (Keep.row _ _ _) (fun i hi e => by have e2 : i = w.heap.size := e; omega)
theorem newA_blk (w : World) (a : Ad) : Blk (newA w a) w.heap.size 77 a.cells.toArray := Blk.row (Blk.made w _ _) _
theorem keys_snoc (l : List Sr) (s : Sr) : keys (l ++ [s]) = keys l ++ [s.key] := by simp [keys]
/-- copies that a list holds: apart from what was, and from the list's own row -/
def Copies (w0 wr : World) (D : Option Addr) (L : List Sr) : Prop := ∀ s ∈ L, SrOk wr (fun i => i < w0.heap.size ∨ some i = D.map (·.block)) s ∧ s.ns.length ≤ 4096
def ListPost2 (w : World) (ks : List (Int × List Int)) (e : Ending) (w' : World) : Prop := ∃ B d L, keys L = ks ∧ e = .returned (.slice B L.length d) ∧ Srs w' (· < w.heap.size) B L ∧ Same w w'
theorem own_blk {w : World} {base : Nat} {e : TypeId} {size n c : Nat} {D : Option Addr} {xs : List Value} (h : Own w base e size (.slice D n c) n xs) : (Value.slice D n c).ownBlock = D.map (·.block) := by
  cases D <;> rfl
set_option maxRecDepth 100000 in
set_option maxHeartbeats 8000000 in
theorem elist_any (w : World) (eb : Nat) (r : Option Nat) (base : Nat) (va vn R : Value) (all nodes : List Nat) (l : List Ad) (h : IsEst w eb r base va vn R all nodes l) (b : Bool) :
    Calls Tryd.prog 42 #[.pointer (some ⟨eb, 0, none⟩), .bool b] w (ListPost2 w (keys (told l b))) := by
  obtain ⟨A, c, rfl⟩ := h.row.shape
  have e0 : (w.cell? ⟨eb, 0, none⟩).isSome = true := by rw [h.top.at_ 0]; rfl
  have e2 : w.cell? ⟨eb, 2, none⟩ = some (.slice A l.length c) := h.top.at_ 2
  have HSL := hid (fun W (hk : Same w W) => (Own.sl (Av := fun _ => False) h.row (fun _ _ f => f)).same hk)
  have HEA := hid (fun W (hk : Same w W) a (ha : a ∈ l) => (show SrOk W (fun i => i = eb ∨ some i = r) a.s from Sl.same (h.each a ha).1 hk))
  have HLE := hid (fun a (ha : a ∈ l) => (h.each a ha).2)
  have h64 := h.few
  clear h
  go_enter Tryd.func42, Tryd.ntmps42
  go_wp2_with fail
  clear e0 e2
  go_loopw [5, 13] (fun v i wr => ∃ (k : Nat) (D : Option Addr) (d : Nat) (L : List Sr), k ≤ l.length ∧ i = .int .i64 k ∧ v = .slice D L.length d ∧ Hid (keys L = keys (told (l.take k) b) ∧ Own wr w.heap.size 40 2 (.slice D L.length d) L.length (srcells L) ∧ Copies w wr D L ∧ Same w wr)) (fun _ i _ => l.length - (RowKit.intOf i).toNat)
  case atStart => exact ⟨0, none, 0, [], by omega, rfl, rfl, hid ⟨by simp [told, keys], Own.nil _ _ _ _, fun s hs => (by cases hs), Keep.refl _ _⟩⟩
  case round =>
    obtain ⟨k, D, d, L, hk, rfl, rfl, HI⟩ := hrel
    by_cases hlt : k < l.length
    · obtain ⟨a, hka⟩ := get_some hlt
      have hk1 : (k : Int) < (l.length : Int) := by omega
      obtain ⟨b1, o1, rfl, hrow⟩ := ad_row (HSL.out wr HI.out.2.2.2) hka
      have HRW := hid hrow
      have HSN := hid (told_snoc b hka)
      have HOKA := hid (fun W (hk : Same w W) => HEA.out W hk a (List.mem_of_getElem? hka))
      have HL4 := hid (HLE.out a (List.mem_of_getElem? hka))
      have hLk : L.length ≤ k := by
        have := congrArg List.length HI.out.1
        rw [keys_len, keys_len] at this
        have h2 := told_len l b k
        omega
      have hsz := HI.out.2.2.2.size
      clear hrow hka
      go_upto_region 5 with (first
        | (refine wpList_load_mid rfl _ (.tmp 15) rfl _ _ rfl a.cells _ HRW.out Tryd.underlying77 rfl (by kernel_rfl) ?_)
        | (refine wpList_store_row rfl _ (.tmp 7) (.tmp 16) rfl wr.heap.size a.cells.toArray rfl rfl _ _ (Blk.made wr 77 #[.int .i64 0, .slice none 0 0, .bool false]) (by kernel_rfl) rfl (one_toArray (ad_one a)) ?_))
      have hn1 := newA_same wr a
      have hn2 := newA_blk wr a
      unfold newA at hn1 hn2
      generalize ((wr.alloc (.cells #[.int .i64 0, .slice none 0 0, .bool false] 77)).setRow wr.heap.size a.cells.toArray) = wa at *
      have c2 : wa.cell? ⟨wr.heap.size, 2, none⟩ = some (.bool a.ok) := hn2.at_ 2
      have hmid : wa.rangeAt wr.heap.size 0 [.int .i64 a.s.kd, .slice a.s.A a.s.ns.length a.s.c] := fun j u hu => by
        rw [hn2.at_ (0 + j), List.getElem?_toArray, Nat.zero_add]
        match j, hu with
        | 0, hu => exact hu
        | 1, hu => exact hu
        | j + 2, hu => simp at hu
      have HMID := hid hmid
      have HWA := hid (HI.out.2.2.2.then hn1)
      have HOA := hid (HI.out.2.1.keep hn1 (fun _ _ _ f => f))
      have HCA := hid (show Copies w wa D L from fun s hs => ⟨Sl.same (HI.out.2.2.1 s hs).1 hn1, (HI.out.2.2.1 s hs).2⟩)
      have hsa : w.heap.size ≤ wa.heap.size := HWA.out.size
      by_cases hq : a.ok = b
      · rw [if_pos hq] at HSN
        have hq2 : (a.ok == b) = true := by simp [hq]
        have HCP : Hid (Calls Tryd.prog 38 #[.agg #[.int .i64 a.s.kd, .slice a.s.A a.s.ns.length a.s.c]] wa (fun e w' => ∃ A' c', e = .returned (.agg #[.int .i64 a.s.kd, .slice A' a.s.ns.length c']) ∧ SrOk w' (· < wa.heap.size) ⟨a.s.kd, A', c', a.s.ns⟩ ∧ Same wa w')) :=
          hid ((copy_any wa _ a.s (HOKA.out wa HWA.out) (by have := HL4.out; omega)).mono (fun e w' ⟨A', c', he, h1, h2⟩ => ⟨A', c', he, h1, h2⟩))
        clear hq hn1 hn2 hmid
        go_wp2_with (refine wpList_load_mid rfl _ (.tmp 22) rfl wr.heap.size 0 rfl [.int .i64 a.s.kd, .slice a.s.A a.s.ns.length a.s.c] _ HMID.out Tryd.underlying40 rfl (by kernel_rfl) ?_)
        (with_reducible refine HCP.out.mono ?_)
        rintro e w5 ⟨A5, c5, rfl, hs5, hk5⟩
        have HS5 := hid hs5
        have HK5 := hid (HWA.out.then hk5)
        have HO5 := hid (HOA.out.keep hk5 (fun _ _ _ f => f))
        have HC5 := hid (show Copies w w5 D L from fun s hs => ⟨Sl.same (HCA.out s hs).1 hk5, (HCA.out s hs).2⟩)
        have hs5z := hk5.size
        have HDB := hid (fun g (hg : D.map (·.block) = some g) => HOA.out.lt g (by rw [own_blk HOA.out]; exact hg))
        clear hs5 hk5 c2
        go_wp2_with (at_builtin; refine ESrc.lawW (.tmp 21) (.tmp 25) (.slice D L.length d) (some ⟨w5.heap.size, 0, none⟩) 1 1 rfl rfl rfl rfl w.heap.size L.length _ [.int .i64 a.s.kd, .slice A5 a.s.ns.length c5] (HO5.out.keep ((Keep.refl (fun _ => False) w5).alloc _) (fun _ _ _ f => f)) rfl (fun _ => ⟨_, rfl, src_new rfl⟩) (src_one ⟨a.s.kd, A5, c5, a.s.ns⟩) (by omega) (by unfold maxLen; omega) (by first | omega | (simp; omega)) ?_; intro A7 c7 w7 hown hg hwh; have HOW := hid hown; have HG := hid hg; have HWH := hid hwh; clear hown hg hwh)
        go_roundw
        case rel =>
          refine ⟨k + 1, A7, c7, L ++ [⟨a.s.kd, A5, c5, a.s.ns⟩], by omega, by go_num, by simp, hid ⟨?_, ?_, ?_, ?_⟩⟩
          · rw [HSN.out, keys_snoc, keys_snoc, HI.out.1]; rfl
          · rw [srcells_snoc, show (L ++ [(⟨a.s.kd, A5, c5, a.s.ns⟩ : Sr)]).length = L.length + 1 from by simp]; exact HOW.out
          · have hkp : Keep (fun i => some i = D.map (·.block)) w5 w7 := ((Keep.refl _ w5).alloc _).grown HG.out (fun g e _ => by rw [own_blk HO5.out] at e; exact e.symm)
            have hfr : ∀ i, i < w5.heap.size → some i = A7.map (·.block) → some i = D.map (·.block) := by
              intro i hi e
              rcases HWH.out with h1 | h1
              · rw [e, h1, own_blk HO5.out]
              · rw [h1] at e; injection e with e; simp at e; omega
            intro s hs
            rw [List.mem_append] at hs
            rcases hs with hs | hs
            · obtain ⟨h1, h2⟩ := HC5.out s hs
              have h3 : SrOk w5 (fun i => (i < w.heap.size ∨ some i = A7.map (·.block)) ∨ some i = D.map (·.block)) s := Sl.wide h1 (fun i hi e => by
                rcases e with (e | e) | e
                · exact .inl e
                · exact .inr (hfr i hi e)
                · exact .inr e)
              exact ⟨Sl.wide (Sl.keep h3 hkp (fun i _ e => .inr e)) (fun i _ e => .inl e), h2⟩
            · rw [List.mem_singleton.1 hs]
              have h3 : SrOk w5 (fun i => (i < w.heap.size ∨ some i = A7.map (·.block)) ∨ some i = D.map (·.block)) ⟨a.s.kd, A5, c5, a.s.ns⟩ := Sl.wide HS5.out (fun i hi e => by
                show i < wa.heap.size
                rcases e with (e | e) | e
                · omega
                · exact HDB.out i (hfr i hi e).symm
                · exact HDB.out i e.symm)
              exact ⟨Sl.wide (Sl.keep h3 hkp (fun i _ e => .inr e)) (fun i _ e => .inl e), HL4.out⟩
          · exact (HK5.out.alloc _).grown HG.out (fun g e hl => by have := HO5.out.block g e; omega)
        case measure => simp [RowKit.intOf]; omega
      · rw [if_neg hq, List.append_nil] at HSN
        have hq2 : (a.ok == b) = false := by simp [hq]
        clear hq hn1 hn2 hmid
        go_wp2_with fail
        go_roundw
        case rel => first | exact ⟨k + 1, D, d, L, by omega, by go_num, rfl, hid ⟨by rw [HSN.out]; exact HI.out.1, HOA.out, HCA.out, HWA.out⟩⟩ | ((repeat apply Exists.intro); refine And.intro ?_ rfl; exact ⟨k + 1, D, d, L, by omega, by go_num, rfl, hid ⟨by rw [HSN.out]; exact HI.out.1, HOA.out, HCA.out, HWA.out⟩⟩)
        case measure => simp [RowKit.intOf]; omega
    · obtain rfl : k = l.length := by omega
      have hI := HI.out
      rw [List.take_of_length_le (Nat.le_refl _)] at hI
      have HI2 := hid hI
      clear hI
      go_wp2_with fail
      go_ret
      exact ⟨D, d, L, HI2.out.1, rfl, ⟨HI2.out.2.1.sl (fun g hg hav => by have e2 : g < w.heap.size := hav; omega), fun s hs => ⟨Sl.wide (HI2.out.2.2.1 s hs).1 (fun i _ e => .inl e), by have := (HI2.out.2.2.1 s hs).2; omega⟩⟩, HI2.out.2.2.2⟩
end Go.Proofs.YtafpcffhkbeloaaDoor

import Derived.Test.YtafpcffhkbeloaaDoorLoL
import Derived.Test.YtafpcffhkbeloaaDoorLoH
import Derived.Test.YtafpcffhkbeloaaDoorNsH
namespace Go.Proofs.YtafpcffhkbeloaaDoor
open Go.RowKit

/-! ## The plain run: nodes, and the sources with their flags -/
abbrev Ks := Int × List Int
def stepS (st : List Nat × List (Ks × Bool)) (k : Ks) : List Nat × List (Ks × Bool) :=
  ((addS st.1 st.2.length k.1 k.2).1, st.2 ++ (match (addS st.1 st.2.length k.1 k.2).2.1 with | some b => [(k, b)] | none => []))
def runS (all : List Nat) (ks : List Ks) : List Nat × List (Ks × Bool) := ks.foldl stepS (all, [])
theorem runS_snoc (all : List Nat) (ks : List Ks) {k : Nat} {s : Ks} (h : ks[k]? = some s) : runS all (ks.take (k + 1)) = stepS (runS all (ks.take k)) s := by
  rw [take_snoc h, runS, List.foldl_append]; rfl
theorem addS_ok {nodes : List Nat} (h : OkW nodes) (n : Nat) (k : Int) (ns : List Int) : OkW (addS nodes n k ns).1 := by
  unfold addS
  split
  · exact h
  split
  · exact h
  split
  · exact h
  split
  · exact h
  · exact andW_ok h (ofW_ok ns)
theorem runS_ok {all : List Nat} (h : OkW all) (ks : List Ks) : OkW (runS all ks).1 := by
  unfold runS
  suffices ∀ (ks : List Ks) (st : List Nat × List (Ks × Bool)), OkW st.1 → OkW (ks.foldl stepS st).1 from this ks (all, []) h
  intro ks
  induction ks with
  | nil => intro st h; exact h
  | cons k ks ih => intro st h; exact ih _ (addS_ok h _ _ _)
theorem filter_len {α : Type} (p : α → Bool) : ∀ l : List α, (l.filter p).length = l.length → l.filter p = l
  | [], _ => rfl
  | a :: l, h => by
    rw [List.filter_cons] at h ⊢
    split
    · rename_i hp
      rw [if_pos hp] at h
      rw [filter_len p l (by simpa using h)]
    · rename_i hp
      rw [if_neg hp] at h
      have := List.length_filter_le p l
      simp at h; omega
/-- one step alike -/
theorem tell_add {nodes : List Nat} (h : OkW nodes) (n : Nat) (k : Int) (ns : List Int) : tellS (elemsI nodes) n k ns = (elemsI (addS nodes n k ns).1, (addS nodes n k ns).2) := by
  have hb : bothL (elemsI nodes) (setL ns) = elemsI (andW nodes (ofW ns)) := by rw [setL_eq, both_eq h (ofW_ok ns)]
  have hok := andW_ok h (ofW_ok ns)
  unfold tellS addS
  rw [hb]
  by_cases h1 : rightB k ns.length = false
  · rw [if_pos h1, if_pos h1]
  rw [if_neg h1, if_neg h1]
  by_cases h2 : 64 ≤ n
  · rw [if_pos h2, if_pos h2]
  rw [if_neg h2, if_neg h2]
  have hz : (elemsI (andW nodes (ofW ns))).length = 0 ↔ andW nodes (ofW ns) = zeroW := by rw [List.length_eq_zero_iff, elemsI_nil hok]
  by_cases h3 : andW nodes (ofW ns) = zeroW
  · rw [if_pos (hz.2 h3), if_pos h3]
  rw [if_neg (fun e => h3 (hz.1 e)), if_neg h3]
  by_cases h4 : andW nodes (ofW ns) = nodes
  · rw [if_pos h4, h4]; simp
  · rw [if_neg h4]
    have : (elemsI (andW nodes (ofW ns))).length < (elemsI nodes).length := by
      rw [← hb]
      have hle : (bothL (elemsI nodes) (setL ns)).length ≤ (elemsI nodes).length := List.length_filter_le _ _
      rcases Nat.lt_or_ge (bothL (elemsI nodes) (setL ns)).length (elemsI nodes).length with h5 | h5
      · exact h5
      · exfalso
        have h6 := filter_len _ _ (Nat.le_antisymm hle h5)
        have h7 : elemsI (andW nodes (ofW ns)) = elemsI nodes := by rw [← hb]; exact h6
        exact h4 (elemsI_inj hok h h7)
    simp [this]

/-! ## The two sides in memory -/
def EstIs (w : World) (eb : Nat) (r : Option Nat) (base : Nat) (all nodes : List Nat) (L : List (Ks × Bool)) : Prop := ∃ va vn R l, IsEst w eb r base va vn R all nodes l ∧ vws l = L
def SpotIs (w : World) (Av : Nat → Prop) (p : Sp) (all nodes : List Nat) (L : List (Ks × Bool)) : Prop :=
  ∃ oks, SpOk w Av p oks ∧ p.all = elemsI all ∧ p.wh = elemsI nodes ∧ keys p.l = L.map (·.1) ∧ oks = L.map (·.2)
theorem EstIs.same {w w' : World} {eb : Nat} {r : Option Nat} {base : Nat} {all nodes : List Nat} {L : List (Ks × Bool)} (h : EstIs w eb r base all nodes L) (hk : Same w w') : EstIs w' eb r base all nodes L := by
  obtain ⟨va, vn, R, l, h1, h2⟩ := h
  exact ⟨va, vn, R, l, h1.same hk, h2⟩
theorem EstIs.few {w : World} {eb : Nat} {r : Option Nat} {base : Nat} {all nodes : List Nat} {L : List (Ks × Bool)} (h : EstIs w eb r base all nodes L) : L.length ≤ 64 ∧ ∀ k ∈ L, k.1.2.length ≤ 4096 := by
  obtain ⟨va, vn, R, l, h1, rfl⟩ := h
  refine ⟨by have := h1.few; simpa [vws] using this, fun k hk => ?_⟩
  simp only [vws, List.mem_map] at hk
  obtain ⟨a, ha, rfl⟩ := hk
  exact (h1.each a ha).2
theorem EstIs.ok {w : World} {eb : Nat} {r : Option Nat} {base : Nat} {all nodes : List Nat} {L : List (Ks × Bool)} (h : EstIs w eb r base all nodes L) : OkW nodes ∧ OkW all := by
  obtain ⟨va, vn, R, l, h1, rfl⟩ := h
  exact ⟨h1.nodes_.ok, h1.all_.ok⟩
theorem EstIs.lt {w : World} {eb : Nat} {r : Option Nat} {base : Nat} {all nodes : List Nat} {L : List (Ks × Bool)} (h : EstIs w eb r base all nodes L) : base ≤ eb ∧ eb < w.heap.size ∧ ∀ g, r = some g → base ≤ g ∧ g < w.heap.size := by
  obtain ⟨va, vn, R, l, h1, rfl⟩ := h
  exact ⟨h1.lo, h1.top.lt, fun g e => ⟨h1.row.block g (h1.own.trans e), h1.row.lt g (h1.own.trans e)⟩⟩
theorem SpotIs.same {w w' : World} {Av : Nat → Prop} {p : Sp} {all nodes : List Nat} {L : List (Ks × Bool)} (h : SpotIs w Av p all nodes L) (hk : Same w w') : SpotIs w' Av p all nodes L := by
  obtain ⟨oks, h1, h2⟩ := h
  exact ⟨oks, h1.same hk, h2⟩
theorem SpotIs.keep {w w' : World} {S Av : Nat → Prop} {p : Sp} {all nodes : List Nat} {L : List (Ks × Bool)} (h : SpotIs w Av p all nodes L) (hk : Keep S w w') (hS : ∀ i, i < w.heap.size → S i → Av i) : SpotIs w' Av p all nodes L := by
  obtain ⟨oks, h1, h2⟩ := h
  exact ⟨oks, h1.keep hk hS, h2⟩
theorem SpotIs.wide {w : World} {Av Av' : Nat → Prop} {p : Sp} {all nodes : List Nat} {L : List (Ks × Bool)} (h : SpotIs w Av p all nodes L) (hS : ∀ i, i < w.heap.size → Av' i → Av i) : SpotIs w Av' p all nodes L := by
  obtain ⟨oks, h1, h2⟩ := h
  exact ⟨oks, h1.wide hS, h2⟩
theorem SpotIs.len {w : World} {Av : Nat → Prop} {p : Sp} {all nodes : List Nat} {L : List (Ks × Bool)} (h : SpotIs w Av p all nodes L) : p.l.length = L.length := by
  obtain ⟨oks, h1, _, _, h3, h4⟩ := h
  have := congrArg List.length h3
  simpa [keys] using this
/-- Add and Tell on the two sides -/
theorem add_is (w : World) (eb : Nat) (r : Option Nat) (base : Nat) (all nodes : List Nat) (L : List (Ks × Bool)) (h : EstIs w eb r base all nodes L) (s : Sr) (Av : Nat → Prop) (hs : SrOk w Av s) (hn : s.ns.length ≤ 1000000) :
    Calls Tryd.prog 14 #[.pointer (some ⟨eb, 0, none⟩), .agg s.cells.toArray] w (fun e w' => e = .returned (.tuple #[.bool (addS nodes L.length s.key.1 s.key.2).2.2.1, .int .i64 (addS nodes L.length s.key.1 s.key.2).2.2.2]) ∧
      ∃ r', EstIs w' eb r' base all (stepS (nodes, L) s.key).1 (stepS (nodes, L) s.key).2 ∧ Keep (fun i => i = eb ∨ some i = r) w w' ∧ (∀ g, r' = some g → r = some g ∨ w.heap.size ≤ g)) := by
  obtain ⟨va, vn, R, l, h1, h2⟩ := h
  have hl : L.length = l.length := by rw [← h2, vws, List.length_map]
  refine (add_est w eb r base va vn R all nodes l h1 s Av hs hn).mono ?_
  rintro e w' ⟨r', va', vn', R', l', rfl, h3, h4, h5, h6⟩
  rw [hl]
  refine ⟨rfl, r', ⟨va', vn', R', l', ?_, ?_⟩, h5, h6⟩
  · show IsEst w' eb r' base va' vn' R' all (addS nodes L.length s.key.1 s.key.2).1 l'
    rw [hl]; exact h3
  · show vws l' = L ++ (match (addS nodes L.length s.key.1 s.key.2).2.1 with | some b => [(s.key, b)] | none => [])
    rw [h4, h2, hl]; rfl
theorem tell_is (w : World) (Av : Nat → Prop) (p : Sp) (all nodes : List Nat) (L : List (Ks × Bool)) (h : SpotIs w Av p all nodes L) (hok : OkW nodes) (hL : L.length ≤ 64) (x : Sr) (hx : SrOk w Av x) (hn : x.ns.length ≤ 1000) :
    Calls Tryd.prog 15 #[.agg p.cells.toArray, .agg x.cells.toArray] w (fun e w' => ∃ p', e = .returned (.tuple #[.agg p'.cells.toArray, .bool (addS nodes L.length x.key.1 x.key.2).2.2.1, .int .i64 (addS nodes L.length x.key.1 x.key.2).2.2.2]) ∧
      SpotIs w' (fun i => i < w.heap.size ∧ Av i) p' all (stepS (nodes, L) x.key).1 (stepS (nodes, L) x.key).2 ∧ Same w w') := by
  have hlen := h.len
  obtain ⟨oks, h1, h2, h3, h4, h5⟩ := h
  refine (tell_any w Av p oks h1 x hx hn (by rw [h3]; exact elemsI_le nodes) (by omega)).mono ?_
  rintro e w' ⟨p', oks', rfl, g1, g2, g3, g4, g5, g6⟩
  have ht := tell_add hok L.length x.key.1 x.key.2
  rw [h3, hlen, ht] at g2 g3 g4
  rw [h3, hlen, ht]
  refine ⟨p', rfl, ⟨oks', g5, g1.trans h2, by dsimp only at g2; simp only [stepS]; exact g2, ?_, ?_⟩, g6⟩
  · rw [g3, h4]
    show _ = (L ++ (match (addS nodes L.length x.key.1 x.key.2).2.1 with | some b => [(x.key, b)] | none => [])).map (·.1)
    cases (addS nodes L.length x.key.1 x.key.2).2.1 <;> simp
  · rw [g4, h5]
    show _ = (L ++ (match (addS nodes L.length x.key.1 x.key.2).2.1 with | some b => [(x.key, b)] | none => [])).map (·.2)
    cases (addS nodes L.length x.key.1 x.key.2).2.1 <;> simp
def tl (L : List (Ks × Bool)) (b : Bool) : List Ks := (L.filter (fun k => k.2 == b)).map (·.1)
theorem tl_told (l : List Ad) (b : Bool) : keys (told l b) = tl (vws l) b := by
  induction l with
  | nil => rfl
  | cons a l ih =>
    have e : vws (a :: l) = (a.s.key, a.ok) :: vws l := rfl
    rw [e]
    unfold told tl at *
    simp only [List.filter_cons]
    by_cases h : (a.ok == b) = true
    · rw [if_pos h, if_pos h]
      show a.s.key :: keys _ = _ :: _
      rw [ih]
    · rw [if_neg h, if_neg h]; exact ih
theorem tl_mem {L : List (Ks × Bool)} {b : Bool} {k : Ks} (h : k ∈ tl L b) : (k, b) ∈ L := by
  simp only [tl, List.mem_map, List.mem_filter] at h
  obtain ⟨a, ⟨h1, h2⟩, rfl⟩ := h
  have : a.2 = b := by simpa using h2
  rw [← this]; exact h1
theorem tl_len (L : List (Ks × Bool)) (b : Bool) : (tl L b).length ≤ L.length := by rw [tl, List.length_map]; exact List.length_filter_le _ _
def zipA (l : List Sr) (oks : List Bool) : List Ad := List.zipWith Ad.mk l oks
theorem zipA_s : ∀ (l : List Sr) (oks : List Bool), oks.length = l.length → (zipA l oks).map Ad.s = l ∧ (zipA l oks).map Ad.ok = oks
  | [], [], _ => ⟨rfl, rfl⟩
  | [], _ :: _, h => by simp at h
  | _ :: _, [], h => by simp at h
  | a :: l, b :: oks, h => by
    have := zipA_s l oks (by simpa using h)
    exact ⟨by show a :: (zipA l oks).map Ad.s = a :: l; rw [this.1], by show b :: (zipA l oks).map Ad.ok = b :: oks; rw [this.2]⟩
theorem vws_zip {l : List Ad} {L : List (Ks × Bool)} (h1 : keys (l.map Ad.s) = L.map (·.1)) (h2 : l.map Ad.ok = L.map (·.2)) : vws l = L := by
  induction l generalizing L with
  | nil => cases L with
    | nil => rfl
    | cons => simp [keys] at h1
  | cons a l ih => cases L with
    | nil => simp [keys] at h1
    | cons k L =>
      simp only [List.map_cons, keys, List.cons.injEq] at h1 h2
      have := ih (L := L) h1.2 h2.2
      show (a.s.key, a.ok) :: vws l = k :: L
      rw [this, h1.1, h2.1]
theorem toldsp_any (w : World) (Av : Nat → Prop) (p : Sp) (all nodes : List Nat) (L : List (Ks × Bool)) (h : SpotIs w Av p all nodes L) (hL : L.length ≤ 64) (b : Bool) :
    Calls Tryd.prog 41 #[.agg p.cells.toArray, .bool b] w (fun e w' => ∃ B d F, keys F = tl L b ∧ e = .returned (.slice B F.length d) ∧ Srs w' (fun _ => False) B F ∧ Same w w') := by
  have hlen := h.len
  obtain ⟨oks, h1, _, _, h4, h5⟩ := h
  have hol := h1.len
  obtain ⟨z1, z2⟩ := zipA_s p.l oks hol
  have hzl : (zipA p.l oks).length = p.l.length := by simp [zipA, hol]
  have hv : vws (zipA p.l oks) = L := vws_zip (by rw [z1, h4]) (by rw [z2, h5])
  have hc : p.cells.toArray = (spotV p.A p.all.length p.ca p.B p.wh.length p.cb p.X (zipA p.l oks).length p.cx p.Y p.cy).toArray := by rw [hzl]; rfl
  rw [hc]
  refine (told_any w (fun _ => False) (fun _ f => f.elim) p.A p.all.length p.ca p.B p.wh.length p.cb p.X p.cx p.Y p.cy (zipA p.l oks) (by rw [z1]; exact h1.srcs.wide (fun _ _ f => f.elim)) (by rw [z2, hzl]; exact h1.sure.wide (fun _ _ f => f.elim)) (by omega) b).mono ?_
  rintro e w' ⟨B, d, rfl, hs, hk⟩
  exact ⟨B, d, told (zipA p.l oks) b, by rw [tl_told, hv], rfl, hs, hk⟩
theorem rejected_is (w : World) (eb : Nat) (r : Option Nat) (base : Nat) (all nodes : List Nat) (L : List (Ks × Bool)) (h : EstIs w eb r base all nodes L) :
    Calls Tryd.prog 19 #[.pointer (some ⟨eb, 0, none⟩)] w (ListPost2 w (tl L false)) := by
  obtain ⟨va, vn, R, l, h1, rfl⟩ := h
  rw [← tl_told]
  exact rejected_any w eb r base va vn R all nodes l h1
theorem accepted_is (w : World) (eb : Nat) (r : Option Nat) (base : Nat) (all nodes : List Nat) (L : List (Ks × Bool)) (h : EstIs w eb r base all nodes L) :
    Calls Tryd.prog 20 #[.pointer (some ⟨eb, 0, none⟩)] w (ListPost2 w (tl L true)) := by
  obtain ⟨va, vn, R, l, h1, rfl⟩ := h
  rw [← tl_told]
  exact accepted_any w eb r base va vn R all nodes l h1
theorem nodes_is (w : World) (eb : Nat) (r : Option Nat) (base : Nat) (all nodes : List Nat) (L : List (Ks × Bool)) (h : EstIs w eb r base all nodes L) :
    Calls Tryd.prog 21 #[.pointer (some ⟨eb, 0, none⟩)] w (fun e w' => ∃ v, e = .returned (.agg #[v]) ∧ IsSet w' v nodes ∧ Same w w') := by
  obtain ⟨va, vn, R, l, h1, rfl⟩ := h
  refine (nodes_any w eb r base va vn R all nodes l h1).mono ?_
  rintro e w' ⟨rfl, hk⟩
  exact ⟨vn, rfl, h1.nodes_.same hk, hk⟩
theorem keys_bound {F : List Sr} {L : List (Ks × Bool)} {b : Bool} (h : keys F = tl L b) (hL : L.length ≤ 64 ∧ ∀ k ∈ L, k.1.2.length ≤ 4096) : F.length ≤ 1000000 ∧ ∀ s ∈ F, s.ns.length ≤ 1000000 := by
  have h1 := tl_len L b
  rw [← h, keys_len] at h1
  refine ⟨by have := hL.1; omega, fun s hs => ?_⟩
  have h2 : s.key ∈ tl L b := by rw [← h]; exact List.mem_map.2 ⟨s, hs, rfl⟩
  have := hL.2 _ (tl_mem h2)
  have h3 : s.ns.length ≤ 4096 := this
  omega
theorem Tab.same {w w' : World} (h : Tab w) (h0 : 0 < w.heap.size) (hk : Same w w') : Tab w' := fun i hi => (hk.cell (p := ⟨0, i, none⟩) h0 (fun f => f)).trans (h i hi)
set_option maxRecDepth 100000 in
set_option maxHeartbeats 8000000 in
theorem same_is (w : World) (hT : Tab w) (h0 : 0 < w.heap.size) (eb : Nat) (r : Option Nat) (base : Nat) (all nodes : List Nat) (L : List (Ks × Bool)) (h : EstIs w eb r base all nodes L) (Av : Nat → Prop) (p : Sp) (hp : SpotIs w Av p all nodes L) :
    Calls Tryd.prog 16 #[.pointer (some ⟨eb, 0, none⟩), .agg p.cells.toArray] w (fun e w' => e = .returned (.bool true) ∧ Same w w') := by
  have hk : Same w (w.alloc (.cells p.cells.toArray 36)) := (Keep.refl _ _).alloc _
  have hb := Blk.made w 36 p.cells.toArray
  generalize hw1 : (w.alloc (.cells p.cells.toArray 36)) = w1 at *
  have HK := hid hk
  have HE := hid (fun W (hk2 : Same w1 W) => (h.same hk).same hk2)
  have HP := hid (fun W (hk2 : Same w1 W) => (hp.same hk).same hk2)
  have HT := hid (fun W (hk2 : Same w1 W) => hT.same h0 (hk.then hk2))
  have HT0 := hid (fun W (hk2 : Same w1 W) => (show 0 < W.heap.size from Nat.lt_of_lt_of_le h0 (hk.then hk2).size))
  have HFW := hid h.few
  have HSA := hid (fun W (hk2 : Same w1 W) => (show W.cell? ⟨w.heap.size, 1, none⟩ = some (.slice p.B p.wh.length p.cb) ∧ Blk W w.heap.size 36 p.cells.toArray from ⟨(hb.keep (S := fun _ => False) hk2 (fun f => f)).at_ 1, hb.keep hk2 (fun f => f)⟩))
  have HSM := hid (fun (W : World) (A5 : Option Addr) (c5 : Nat) (hk2 : Same w1 W) {Bv : Nat → Prop} (hs : Sl W Bv 1 A5 (elemsI nodes).length ((elemsI nodes).map (Value.int .i64))) => (show Calls Tryd.prog 33 #[.slice A5 (elemsI nodes).length c5, .slice p.B p.wh.length p.cb] W (fun e w' => e = .returned (.bool true) ∧ Same W w') from by
    obtain ⟨oks, g1, g2, g3, g4, g5⟩ := (hp.same hk).same hk2
    have := same07_any W _ _ A5 p.B c5 p.cb (elemsI nodes) p.wh hs g1.wh_ (by have := elemsI_le nodes; omega) (by rw [g3]; have := elemsI_le nodes; omega)
    rwa [show decide (elemsI nodes = p.wh) = true from by rw [g3]; simp] at this))
  have HSR := hid (fun (W : World) (B1 B2 : Option Addr) (d1 d2 : Nat) (F1 F2 : List Sr) (b : Bool) (X1 : Nat → Prop) {X2 : Nat → Prop} (e1 : keys F1 = tl L b) (e2 : keys F2 = tl L b) (s1 : Srs W X1 B1 F1) (s2 : Srs W X2 B2 F2) => (show Calls Tryd.prog 40 #[.slice B1 F1.length d1, .slice B2 F2.length d2] W (fun e w' => e = .returned (.bool true) ∧ Same W w') from by
    have b1 := keys_bound e1 HFW.out
    have b2 := keys_bound e2 HFW.out
    have := samesrc_any W _ _ B1 B2 d1 d2 F1 F2 s1 s2 b1.1 b2.1 b1.2 b2.2
    rwa [show decide (keys F1 = keys F2) = true from by rw [e1, e2]; simp] at this))
  clear hk hb h hp hT
  go_enter Tryd.func16, Tryd.ntmps16
  go_upto_region 1 with fail
  try rw [hw1]
  clear hw1
  refine wp_region_held_drew (S := fun W => W.cell? ⟨w.heap.size, 1, none⟩ = some (.slice p.B p.wh.length p.cb) ∧ Blk W w.heap.size 36 p.cells.toArray) (by kernel_rfl) (HSA.out _ (Keep.refl _ _).drew) (fun hHeld => ?_)
  refine takeO (i := 0) (v := ?_) (by kernel_rfl) (by kernel_rfl) (by kernel_rfl) (fun c a d v w h => by cases d <;> exact h) (oi := ?_) ?_ ?_ (by assumption) ?_
  rotate_left 2
  · (simp only [List.getElem?_toArray, List.getElem?_cons_zero]; rfl)
  · (refine Or.inl ⟨by rfl, ?_⟩; intro w hSw; (try dsimp only at hSw); go_simp; try with_reducible rfl)
  try simp only [Act.put, List.setIfInBounds_toArray, List.set_cons_zero, List.set_cons_succ]
  refine takeO (i := 1) (v := ?_) (by kernel_rfl) (by kernel_rfl) (by kernel_rfl) (fun c a d v w h => by cases d <;> exact h) (oi := ?_) ?_ ?_ (by assumption) ?_
  rotate_left 2
  · (simp only [List.getElem?_toArray, List.getElem?_cons_succ, List.getElem?_cons_zero]; rfl)
  · (refine Or.inl ⟨by rfl, ?_⟩; intro w hSw; (try dsimp only at hSw); go_simp; try with_reducible rfl)
  try simp only [Act.put, List.setIfInBounds_toArray, List.set_cons_zero, List.set_cons_succ]
  refine takeO (i := 2) (v := ?_) (by kernel_rfl) (by kernel_rfl) (by kernel_rfl) (fun c a d v w h => by cases d <;> exact h) (oi := ?_) ?_ ?_ (by assumption) ?_
  rotate_left 2
  · (simp only [List.getElem?_toArray, List.getElem?_cons_succ, List.getElem?_cons_zero]; rfl)
  · (refine Or.inl ⟨by rfl, ?_⟩; intro w hSw; (try dsimp only at hSw); go_simp; try with_reducible rfl)
  try simp only [Act.put, List.setIfInBounds_toArray, List.set_cons_zero, List.set_cons_succ]
  refine takeO (i := 3) (v := ?_) (by kernel_rfl) (by kernel_rfl) (by kernel_rfl) (fun c a d v w h => by cases d <;> exact h) (oi := ?_) ?_ ?_ (by assumption) ?_
  rotate_left 2
  · (simp only [List.getElem?_toArray, List.getElem?_cons_succ, List.getElem?_cons_zero]; rfl)
  · (refine Or.inl ⟨by rfl, ?_⟩; intro w hSw; (try dsimp only at hSw); go_simp; try with_reducible rfl)
  try simp only [Act.put, List.setIfInBounds_toArray, List.set_cons_zero, List.set_cons_succ]
  refine takeO (i := 6) (v := ?_) (by kernel_rfl) (by kernel_rfl) (by kernel_rfl) (fun c a d v w h => by cases d <;> exact h) (oi := ?_) ?_ ?_ (by assumption) ?_
  rotate_left 2
  · (simp only [List.getElem?_toArray, List.getElem?_cons_succ, List.getElem?_cons_zero]; rfl)
  · (refine Or.inl ⟨by rfl, ?_⟩; intro w hSw; (try dsimp only at hSw); go_simp; try with_reducible rfl)
  try simp only [Act.put, List.setIfInBounds_toArray, List.set_cons_zero, List.set_cons_succ]
  refine takeO (i := 7) (v := ?_) (by kernel_rfl) (by kernel_rfl) (by kernel_rfl) (fun c a d v w h => by cases d <;> exact h) (oi := ?_) ?_ ?_ (by assumption) ?_
  rotate_left 2
  · (simp only [List.getElem?_toArray, List.getElem?_cons_succ, List.getElem?_cons_zero]; rfl)
  · (refine Or.inl ⟨by rfl, ?_⟩; intro w hSw; (try dsimp only at hSw); go_simp; try with_reducible rfl)
  try simp only [Act.put, List.setIfInBounds_toArray, List.set_cons_zero, List.set_cons_succ]
  refine wpAnyH_ready (rs := [4]) (by kernel_rfl) (by simp) ?_
  refine AllReadyH.cons rfl (fun K hK => ?_) AllReadyH.nil
  go_simp
  refine (nodes_is _ eb r base all nodes L (HE.out _ (Keep.refl _ _).drew)).mono ?_
  rintro e w4 ⟨v4, rfl, hs4, hk4⟩
  have HS4 := hid hs4
  have HK4 := hid (show Same w1 w4 from (Keep.refl _ w1).drew.then hk4)
  clear hs4 hk4
  refine hK.out _ _ (HSA.out _ HK4.out) (fun hHeld1 => ?_)
  clear hK K
  try simp only [Act.put, List.setIfInBounds_toArray, List.set_cons_zero, List.set_cons_succ]
  refine wpAnyH_ready (rs := [5]) (by kernel_rfl) (by simp) ?_
  refine AllReadyH.cons rfl (fun K hK => ?_) AllReadyH.nil
  go_simp
  refine (list_any _ (HT.out _ HK4.out) (HT0.out _ HK4.out) v4 nodes HS4.out).mono ?_
  rintro e w5 ⟨v5, rfl, ho5, hk5⟩
  obtain ⟨A5, c5, rfl⟩ := Own.shape ho5
  have HS5 := hid (Own.slN ho5)
  have HK5 := hid (HK4.out.then hk5)
  clear ho5 hk5
  refine hK.out _ _ (HSA.out _ HK5.out) (fun hHeld2 => ?_)
  clear hK K
  try simp only [Act.put, List.setIfInBounds_toArray, List.set_cons_zero, List.set_cons_succ]
  refine wpAnyH_ready (rs := [8]) (by kernel_rfl) (by simp) ?_
  refine AllReadyH.cons rfl (fun K hK => ?_) AllReadyH.nil
  go_simp
  refine (HSM.out _ _ _ HK5.out HS5.out).mono ?_
  rintro e w8 ⟨rfl, hk8⟩
  have HK8 := hid (HK5.out.then hk8)
  clear hk8
  refine hK.out _ _ (HSA.out _ HK8.out) (fun hHeld3 => ?_)
  clear hK K
  try simp only [Act.put, List.setIfInBounds_toArray, List.set_cons_zero, List.set_cons_succ]
  refine takeO (i := 9) (v := ?_) (by kernel_rfl) (by kernel_rfl) (by kernel_rfl) (fun c a d v w h => by cases d <;> exact h) (oi := ?_) ?_ ?_ (by assumption) ?_
  rotate_left 2
  · (simp only [List.getElem?_toArray, List.getElem?_cons_succ, List.getElem?_cons_zero]; rfl)
  · (refine Or.inl ⟨by rfl, ?_⟩; intro w hSw; (try dsimp only at hSw); go_simp; try with_reducible rfl)
  try simp only [Act.put, List.setIfInBounds_toArray, List.set_cons_zero, List.set_cons_succ]
  refine takeO (i := 10) (v := ?_) (by kernel_rfl) (by kernel_rfl) (by kernel_rfl) (fun c a d v w h => by cases d <;> exact h) (oi := ?_) ?_ ?_ (by assumption) ?_
  rotate_left 2
  · (simp only [List.getElem?_toArray, List.getElem?_cons_succ, List.getElem?_cons_zero]; rfl)
  · (refine Or.inl ⟨by rfl, ?_⟩; intro w hSw; (try dsimp only at hSw); go_simp; try with_reducible rfl)
  try simp only [Act.put, List.setIfInBounds_toArray, List.set_cons_zero, List.set_cons_succ]
  refine takeO (i := 11) (v := ?_) (by kernel_rfl) (by kernel_rfl) (by kernel_rfl) (fun c a d v w h => by cases d <;> exact h) (oi := ?_) ?_ ?_ (by assumption) ?_
  rotate_left 2
  · (simp only [List.getElem?_toArray, List.getElem?_cons_succ, List.getElem?_cons_zero]; rfl)
  · (refine Or.inl ⟨by rfl, ?_⟩; intro w hSw; (try dsimp only at hSw); go_simp; try with_reducible rfl)
  try simp only [Act.put, List.setIfInBounds_toArray, List.set_cons_zero, List.set_cons_succ]
  refine takeLw (i := 13) (by kernel_rfl) (by kernel_rfl) (by kernel_rfl) (fun c a d v w h => by cases d <;> exact h) (oi := ?_) ?_ ?_ _ (.tmp 3) ?_ (w.heap.size) ?_ 36 (p.cells.toArray) (0, 0) _ (fun W hW => hW.2) Tryd.underlying36 rfl (by kernel_rfl) (by assumption) ?_
  rotate_left 1
  · (simp only [List.getElem?_toArray, List.getElem?_cons_succ, List.getElem?_cons_zero]; rfl)
  · rfl
  · rfl
  · rfl
  try simp only [Act.put, List.setIfInBounds_toArray, List.set_cons_zero, List.set_cons_succ]
  refine wpAnyH_ready (rs := [12]) (by kernel_rfl) (by simp) ?_
  refine AllReadyH.cons rfl (fun K hK => ?_) AllReadyH.nil
  go_simp
  refine (rejected_is _ eb r base all nodes L (HE.out _ HK8.out)).mono ?_
  rintro e w12 ⟨B12, d12, F12, hf12, rfl, hs12, hk12⟩
  have HF12 := hid (And.intro hf12 hs12)
  have HK12 := hid ((HK8.out).then hk12)
  clear hf12 hs12 hk12
  refine hK.out _ _ (HSA.out _ HK12.out) (fun hHeld4 => ?_)
  clear hK K
  try simp only [Act.put, List.setIfInBounds_toArray, List.set_cons_zero, List.set_cons_succ]
  refine wpAnyH_ready (rs := [14]) (by kernel_rfl) (by simp) ?_
  refine AllReadyH.cons rfl (fun K hK => ?_) AllReadyH.nil
  go_simp
  refine (toldsp_any _ Av p all nodes L (HP.out _ HK12.out) HFW.out.1 false).mono ?_
  rintro e w14 ⟨B14, d14, F14, hf14, rfl, hs14, hk14⟩
  have HF14 := hid (And.intro hf14 hs14)
  have HK14 := hid (HK12.out.then hk14)
  have HG12 := hid (HF12.out.2.same hk14)
  clear hf14 hs14 hk14
  refine hK.out _ _ (HSA.out _ HK14.out) (fun hHeld5 => ?_)
  clear hK K
  try simp only [Act.put, List.setIfInBounds_toArray, List.set_cons_zero, List.set_cons_succ]
  refine wpAnyH_ready (rs := [15]) (by kernel_rfl) (by simp) ?_
  refine AllReadyH.cons rfl (fun K hK => ?_) AllReadyH.nil
  go_simp
  refine (HSR.out _ _ _ _ _ _ _ false _ HF12.out.1 HF14.out.1 HG12.out HF14.out.2).mono ?_
  rintro e w15 ⟨rfl, hk15⟩
  have HK15 := hid (HK14.out.then hk15)
  clear hk15
  refine hK.out _ _ (HSA.out _ HK15.out) (fun hHeld6 => ?_)
  clear hK K
  try simp only [Act.put, List.setIfInBounds_toArray, List.set_cons_zero, List.set_cons_succ]
  refine takeO (i := 16) (v := ?_) (by kernel_rfl) (by kernel_rfl) (by kernel_rfl) (fun c a d v w h => by cases d <;> exact h) (oi := ?_) ?_ ?_ (by assumption) ?_
  rotate_left 2
  · (simp only [List.getElem?_toArray, List.getElem?_cons_succ, List.getElem?_cons_zero]; rfl)
  · (refine Or.inl ⟨by rfl, ?_⟩; intro w hSw; (try dsimp only at hSw); go_simp; try with_reducible rfl)
  try simp only [Act.put, List.setIfInBounds_toArray, List.set_cons_zero, List.set_cons_succ]
  refine takeO (i := 17) (v := ?_) (by kernel_rfl) (by kernel_rfl) (by kernel_rfl) (fun c a d v w h => by cases d <;> exact h) (oi := ?_) ?_ ?_ (by assumption) ?_
  rotate_left 2
  · (simp only [List.getElem?_toArray, List.getElem?_cons_succ, List.getElem?_cons_zero]; rfl)
  · (refine Or.inl ⟨by rfl, ?_⟩; intro w hSw; (try dsimp only at hSw); go_simp; try with_reducible rfl)
  try simp only [Act.put, List.setIfInBounds_toArray, List.set_cons_zero, List.set_cons_succ]
  refine takeO (i := 18) (v := ?_) (by kernel_rfl) (by kernel_rfl) (by kernel_rfl) (fun c a d v w h => by cases d <;> exact h) (oi := ?_) ?_ ?_ (by assumption) ?_
  rotate_left 2
  · (simp only [List.getElem?_toArray, List.getElem?_cons_succ, List.getElem?_cons_zero]; rfl)
  · (refine Or.inl ⟨by rfl, ?_⟩; intro w hSw; (try dsimp only at hSw); go_simp; try with_reducible rfl)
  try simp only [Act.put, List.setIfInBounds_toArray, List.set_cons_zero, List.set_cons_succ]
  refine takeLw (i := 20) (by kernel_rfl) (by kernel_rfl) (by kernel_rfl) (fun c a d v w h => by cases d <;> exact h) (oi := ?_) ?_ ?_ _ (.tmp 3) ?_ (w.heap.size) ?_ 36 (p.cells.toArray) (0, 0) _ (fun W hW => hW.2) Tryd.underlying36 rfl (by kernel_rfl) (by assumption) ?_
  rotate_left 1
  · (simp only [List.getElem?_toArray, List.getElem?_cons_succ, List.getElem?_cons_zero]; rfl)
  · rfl
  · rfl
  · rfl
  try simp only [Act.put, List.setIfInBounds_toArray, List.set_cons_zero, List.set_cons_succ]
  refine wpAnyH_ready (rs := [19]) (by kernel_rfl) (by simp) ?_
  refine AllReadyH.cons rfl (fun K hK => ?_) AllReadyH.nil
  go_simp
  refine (accepted_is _ eb r base all nodes L (HE.out _ HK15.out)).mono ?_
  rintro e w19 ⟨B19, d19, F19, hf19, rfl, hs19, hk19⟩
  have HF19 := hid (And.intro hf19 hs19)
  have HK19 := hid ((HK15.out).then hk19)
  clear hf19 hs19 hk19
  refine hK.out _ _ (HSA.out _ HK19.out) (fun hHeld7 => ?_)
  clear hK K
  try simp only [Act.put, List.setIfInBounds_toArray, List.set_cons_zero, List.set_cons_succ]
  refine wpAnyH_ready (rs := [21]) (by kernel_rfl) (by simp) ?_
  refine AllReadyH.cons rfl (fun K hK => ?_) AllReadyH.nil
  go_simp
  refine (toldsp_any _ Av p all nodes L (HP.out _ HK19.out) HFW.out.1 true).mono ?_
  rintro e w21 ⟨B21, d21, F21, hf21, rfl, hs21, hk21⟩
  have HF21 := hid (And.intro hf21 hs21)
  have HK21 := hid (HK19.out.then hk21)
  have HG19 := hid (HF19.out.2.same hk21)
  clear hf21 hs21 hk21
  refine hK.out _ _ (HSA.out _ HK21.out) (fun hHeld8 => ?_)
  clear hK K
  try simp only [Act.put, List.setIfInBounds_toArray, List.set_cons_zero, List.set_cons_succ]
  refine wpAnyH_ready (rs := [22]) (by kernel_rfl) (by simp) ?_
  refine AllReadyH.cons rfl (fun K hK => ?_) AllReadyH.nil
  go_simp
  refine (HSR.out _ _ _ _ _ _ _ true _ HF19.out.1 HF21.out.1 HG19.out HF21.out.2).mono ?_
  rintro e w22 ⟨rfl, hk22⟩
  have HK22 := hid (HK21.out.then hk22)
  clear hk22
  refine hK.out _ _ (HSA.out _ HK22.out) (fun hHeld9 => ?_)
  clear hK K
  try simp only [Act.put, List.setIfInBounds_toArray, List.set_cons_zero, List.set_cons_succ]
  refine takeO (i := 23) (v := ?_) (by kernel_rfl) (by kernel_rfl) (by kernel_rfl) (fun c a d v w h => by cases d <;> exact h) (oi := ?_) ?_ ?_ (by assumption) ?_
  rotate_left 2
  · (simp only [List.getElem?_toArray, List.getElem?_cons_succ, List.getElem?_cons_zero]; rfl)
  · (refine Or.inl ⟨by rfl, ?_⟩; intro w hSw; (try dsimp only at hSw); go_simp; try with_reducible rfl)
  try simp only [Act.put, List.setIfInBounds_toArray, List.set_cons_zero, List.set_cons_succ]
  refine takeO (i := 24) (v := ?_) (by kernel_rfl) (by kernel_rfl) (by kernel_rfl) (fun c a d v w h => by cases d <;> exact h) (oi := ?_) ?_ ?_ (by assumption) ?_
  rotate_left 2
  · (simp only [List.getElem?_toArray, List.getElem?_cons_succ, List.getElem?_cons_zero]; rfl)
  · (refine Or.inl ⟨by rfl, ?_⟩; intro w hSw; (try dsimp only at hSw); go_simp; try with_reducible rfl)
  try simp only [Act.put, List.setIfInBounds_toArray, List.set_cons_zero, List.set_cons_succ]
  refine wpAnyH_done (by kernel_rfl) ?_ _
  go_wp2_with fail
  go_ret
  exact ⟨rfl, HK.out.then HK22.out⟩
end Go.Proofs.YtafpcffhkbeloaaDoor

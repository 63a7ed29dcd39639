import Derived.Test.YtafpcffhkbeloaaDoorNsG
namespace Go.Proofs.YtafpcffhkbeloaaDoor
open Go.RowKit Go.Shelf

attribute [local go_sem] Oper.semAt_some

theorem each_stops (n : Nat) (hn : 1 ≤ n) (Bn n₀ : Nat) (h0 : 0 < n₀) (v : Value) (ws : List Nat) (w : World) (hBn : Bn < w.heap.size) (hn₀ : n₀ ≤ w.heap.size)
    (hc : w.cell? ⟨Bn, 0, none⟩ = some v) (hs : IsSet w v ws) (hlo : ∀ g, v = .pointer (some ⟨g, 0, none⟩) → g < n₀) (hT : Tab w) :
    SeqStopsK Fence.wide n Tryd.prog 51 #[.pointer (some ⟨Bn, 0, none⟩)] (fun x : Int => #[Value.int .i64 x]) (Below n₀) (fun ys => ys = elemsI ws) (fun pre => pre <+: elemsI ws) (elemsI ws).length w := fun l J Jx W hW hJ _ hY h1 =>
  each1_in n hn l Bn n₀ h0 v ws J Jx hY (fun pre X hX => hJ pre X X.drew none hX ⟨rfl, rfl, rfl, Nat.le_refl _, fun _ _ _ => rfl⟩ (fun r e => by cases e)) W ((hW.cell (p := ⟨Bn, 0, none⟩) hBn).trans hc)
    ⟨hs.ok, hs.mem.imp id (fun ⟨g, e, b, q⟩ => ⟨g, e, b.below (hW.mono hn₀) (hlo g e), q⟩)⟩ hlo (hT.below (hW.mono hn₀) h0) h1
theorem infoI : (Tryd.prog.info? 3).map (fun i => (i.zero, i.size, i.bytes)) = some (some (.int .i64 0), 1, 8) := by kernel_rfl
def ListPost (w : World) (xs : List Int) (e : Ending) (w' : World) : Prop := ∃ v, e = .returned v ∧ w'.ownsRow w.heap.size 3 1 v xs.length (xs.map (Value.int .i64)) ∧ Same w w'
theorem elemsI_le (ws : List Nat) : (elemsI ws).length ≤ 4096 := by
  rw [elemsI_len]
  have := List.length_filter_le (memW ws) (List.range 4096)
  rw [List.length_range] at this
  exact this
set_option maxRecDepth 100000 in
set_option maxHeartbeats 4000000 in
theorem list_any (w : World) (hT : Tab w) (h0 : 0 < w.heap.size) (v : Value) (ws : List Nat) (hs : IsSet w v ws) :
    Calls Tryd.prog 34 #[.agg #[v]] w (ListPost w (elemsI ws)) := by
  refine (callsIn_wide (n := 5)).1 ?_
  obtain ⟨i0, hi, hz0, hz1, hz2⟩ := info_parts infoI
  have hsl : (elemsI ws).length = (elemsW ws).length := elemsI_len ws
  have hle := elemsI_le ws
  refine callsIn_of_wp_marks Tryd.func34 rfl trivial ?_ rfl
  simp only [Tryd.ntmps34, List.size_toArray, List.length_cons, List.length_nil, Nat.reduceAdd, Nat.reduceSub, Array.replicate_succ, Array.replicate_zero, List.push_toArray, List.append_toArray, List.nil_append, List.cons_append]
  have hk1 : Same w (w.alloc (.cells #[v] 32)) := (Keep.refl _ _).alloc _
  have hb1 := Blk.made w 32 #[v]
  have c1 : (w.alloc (.cells #[v] 32)).cell? ⟨w.heap.size, 0, none⟩ = some v := hb1.at_ 0
  have HLE := hid (fun W (hk : Same w W) => len_any W v ws (hs.same hk))
  have HS := hid hs
  have HT := hid hT
  have H1 := hid (show Same w (w.alloc (.cells #[v] 32)) ∧ Blk (w.alloc (.cells #[v] 32)) w.heap.size 32 #[v] from ⟨hk1, hb1⟩)
  clear hs hT hk1 hb1
  gi_wp2_with (first
    | (refine ⟨trivial, ?_⟩; gi_at_call 22; refine (callsIn_wide.2 (HLE.out _ H1.out.1)).mono ?_; rintro e w2 ⟨rfl, hk2⟩; have HK2 := hid hk2; clear hk2 c1)
    | (gi_at_make; refine wpListIn_make_own _ rfl _ _ 22 rfl w.heap.size 3 i0 (.int .i64 0) 1 Tryd.underlying22 hi hz0 hz1 .i64 .i64 _ (elemsW ws).length rfl rfl rfl (by rw [hz2]; omega) (by unfold maxLen; omega) (by have h1 := H1.out.1.size; have h2 := HK2.out.size; omega) ?_; intro w3 hown3 hg3; have hk3 : Same w w3 := (H1.out.1.then HK2.out).grown hg3 (fun r e => by cases e); have hb3 : Blk w3 w.heap.size 32 #[v] := (H1.out.2.keep HK2.out (fun f => f)).keep ((Keep.refl (fun _ => False) w2).grown hg3 (fun r e => by cases e)) (fun f => f); have c3 := hb3.at_ 0; have c4 : (w3.alloc (.cells #[.slice (some ⟨w2.heap.size, 0, none⟩) 0 (elemsW ws).length] 22)).cell? ⟨w.heap.size, 0, none⟩ = some v := (hb3.alloc _).at_ 0; have H3 := hid (show Same w w3 ∧ Blk w3 w.heap.size 32 #[v] ∧ w3.ownsRow w.heap.size 3 1 (.slice (some ⟨w2.heap.size, 0, none⟩) 0 (elemsW ws).length) 0 [] from ⟨hk3, hb3, hown3⟩); clear hk3 hb3 hown3 hg3)
    | (refine ⟨trivial, ?_⟩; gi_at_call 48; refine (each_in _ v _).mono ?_; rintro e w5 ⟨rfl, rfl⟩))
  obtain ⟨hk3, hb3, hr3⟩ := H3.out
  generalize (Value.slice (some ⟨w2.heap.size, 0, none⟩) 0 (elemsW ws).length) = R0 at *
  have hz3 := hk3.size
  have hB0 : Below w.heap.size w ((w3.alloc (.cells #[R0] 22)).alloc (.cells #[v] 32)) := ((hk3.below).alloc (by omega) _).alloc (by simp; omega) _
  have bO := Boxed.new w3 22 R0
  have bN := Boxed.new (w3.alloc (.cells #[R0] 22)) 32 v
  rw [World.size_alloc] at bN
  have hs5 : IsSet ((w3.alloc (.cells #[R0] 22)).alloc (.cells #[v] 32)) v ws := HS.out.same ((hk3.alloc _).alloc _)
  have hT5 : Tab ((w3.alloc (.cells #[R0] 22)).alloc (.cells #[v] 32)) := HT.out.below hB0 h0
  have hlo : ∀ g, v = .pointer (some ⟨g, 0, none⟩) → g < w.heap.size := by
    intro g e
    rcases HS.out.mem with ⟨e2, _⟩ | ⟨g2, e2, hb, _⟩
    · rw [e] at e2; cases e2
    · rw [e] at e2; cases e2; exact Blk.lt hb
  clear c3 c4
  refine wpIn_rangeFunc_ownG rfl (by decide) (gf := 51) (lb := #[.pointer (some ⟨w3.heap.size + 1, 0, none⟩)]) rfl trivial (enters_of Tryd.func51 (by kernel_rfl) rfl)
    (each_stops _ (by decide) (w3.heap.size + 1) w.heap.size h0 v ws _ (by simp) (by simp; omega) bN.cell hs5 hlo hT5) belowK_t (belowK_b (by simp; omega)) (Below.refl _ _) (fun _ => rfl)
    (fun pre W => (∃ u, Boxed W w3.heap.size 22 u ∧ W.ownsRow w.heap.size 3 1 u pre.length (pre.map (Value.int .i64)) ∧ True) ∧ Below w.heap.size w W)
    (fun _ _ _ => False)
    (OwnFrom.and (Go.Own.from (holdsRow_own w.heap.size w3.heap.size 22 3 1 (fun (pre : List Int) => pre.length) (fun (pre : List Int) => pre.map (Value.int .i64)) (fun (pre : List Int) u => True)) _) (ownFrom_below (Nat.le_refl _) (by simp; omega)))
    (fun _ _ _ _ _ hs _ _ => hs)
    ⟨⟨_, bO.alloc _, (hr3.alloc _).alloc _, trivial⟩, hB0⟩
    (fun x => { tmps := #[.agg #[v], .pointer (some ⟨w.heap.size, 0, none⟩), .slice none 0 0, .pointer (some ⟨w3.heap.size, 0, none⟩), .int .i64 x, .agg #[v], .int .i64 (elemsW ws).length, R0, .agg #[v], .func (.func 51) #[] #[.pointer (some ⟨w3.heap.size + 1, 0, none⟩)], .int .i64 x, undef, undef, undef, undef, undef], defers := [] }) ?assign ?body ?done ?stop
  case assign =>
    intro l x W K hK
    gi_wp2
    exact hK
  case body =>
    rintro l pre x W ⟨⟨u, hv, hrow, _⟩, hB⟩ hlt
    have hc := hv.cell
    gi_wp2_with (gi_at_builtin; refine wpListIn_append_own _ rfl _ _ 22 rfl w.heap.size 3 i0 (.int .i64 0) 1 8 Tryd.underlying22 hi hz0 hz1 hz2 rfl (by decide) _ _ _ rfl (hrow.alloc _) ⟨W.heap.size, 0, none⟩ 1 1 [.int .i64 x] rfl rfl (cell_one_new _ _ _) (by simp [Value.oneCell']) (by unfold maxLen; omega) (by omega) (by have := hB.size; simp; omega) ?_; intro v' w1 hown' hgrow _; obtain ⟨g', cap', rfl⟩ := ownsRow_succ hown'; obtain ⟨hv1, hv2, hr2, hk2, hb2⟩ := hv.appended (by decide) hrow hB.size (by omega) hown' hgrow; have hc1 := hv1.cell; have hf1 := hv1.frozen)
    exact ⟨hk2.from _, hb2, ⟨_, hv2, by simpa using hr2, trivial⟩, hB.trans hb2⟩
  case done =>
    rintro D ys W hD rfl ⟨⟨u, hv, hrow, _⟩, hB⟩ hK
    have hc := hv.cell
    gi_wp2
    refine ⟨by simp, .inl ⟨_, _, rfl, run_takeDeferred hK, ?_⟩⟩
    exact ⟨_, results_tmp rfl _ _ _, u, rfl, ownsRow_putObj hrow _ hK rfl, Keep.of_below (hB.trans (belowK_b (w := w) (Nat.le_refl _) W D _ _ (by simp at hD; omega) hK rfl rfl))⟩
  case stop =>
    rintro D c pre W _ _ h _
    exact h.elim
end Go.Proofs.YtafpcffhkbeloaaDoor

import Derived.Test.YtafpcffhkbeloaaDoorLoP
import Derived.Test.YtafpcffhkbeloaaDoorNsI
namespace Go.Proofs.YtafpcffhkbeloaaDoor
open Go.RowKit

/-! ## Shrinks: the plain law -/
theorem diff_zero {a b : List Nat} (ha : OkW a) (hb : OkW b) (h : ∀ n, n < 4096 → memW a n = true → memW b n = true) : diffW a b = zeroW := words_ext (diffW_ok ha hb) zeroW_ok fun n hn => by
  rw [diffW_mem ha hb n hn, zeroW_mem]
  cases h1 : memW a n
  · rfl
  · rw [h n hn h1]; rfl
theorem addS_sub {nodes : List Nat} (h : OkW nodes) (n : Nat) (k : Int) (ns : List Int) : ∀ m, m < 4096 → memW (addS nodes n k ns).1 m = true → memW nodes m = true := by
  intro m hm
  unfold addS
  split
  · exact id
  split
  · exact id
  split
  · exact id
  split
  · exact id
  · intro h1
    rw [andW_mem h (ofW_ok ns) m hm] at h1
    simp at h1
    exact h1.1
theorem addS_ne {nodes : List Nat} (h : nodes ≠ zeroW) (n : Nat) (k : Int) (ns : List Int) : (addS nodes n k ns).1 ≠ zeroW := by
  unfold addS
  split
  · exact h
  split
  · exact h
  split
  · exact h
  split
  · exact h
  · assumption
theorem addS_less {nodes : List Nat} (h : OkW nodes) (n : Nat) (k : Int) (ns : List Int) : (addS nodes n k ns).2.2.1 = decide ((elemsW (addS nodes n k ns).1).length < (elemsW nodes).length) := by
  have ht := tell_add h n k ns
  have h2 := congrArg (fun x => x.2.2.1) ht
  dsimp only at h2
  rw [← h2]
  have h3 := congrArg (fun x => x.1) ht
  dsimp only at h3
  rw [← elemsI_len, ← elemsI_len, ← h3]
  have hb : bothL (elemsI nodes) (setL ns) = elemsI (andW nodes (ofW ns)) := by rw [setL_eq, both_eq h (ofW_ok ns)]
  have hle : (bothL (elemsI nodes) (setL ns)).length ≤ (elemsI nodes).length := List.length_filter_le _ _
  unfold tellS
  split
  · simp
  split
  · simp
  split
  · simp
  · dsimp only
theorem run_sub {all : List Nat} (h : OkW all) (ks : List Ks) : ∀ m, m < 4096 → memW (runS all ks).1 m = true → memW all m = true := by
  unfold runS
  suffices ∀ (ks : List Ks) (st : List Nat × List (Ks × Bool)), OkW st.1 → ∀ m, m < 4096 → memW (ks.foldl stepS st).1 m = true → memW st.1 m = true from this ks (all, []) h
  intro ks
  induction ks with
  | nil => intro st _ m _ h; exact h
  | cons k ks ih => intro st h m hm hx; exact addS_sub h _ _ _ m hm (ih _ (addS_ok h _ _ _) m hm hx)
theorem run_ne {all : List Nat} (h : all ≠ zeroW) (ks : List Ks) : (runS all ks).1 ≠ zeroW := by
  unfold runS
  suffices ∀ (ks : List Ks) (st : List Nat × List (Ks × Bool)), st.1 ≠ zeroW → (ks.foldl stepS st).1 ≠ zeroW from this ks (all, []) h
  intro ks
  induction ks with
  | nil => intro st h; exact h
  | cons k ks ih => intro st h; exact ih _ (addS_ne h _ _ _)
theorem Elem.step2g {P : Program} {t e : TypeId} {size bytes : Nat} {z : Value} (E : Elem P t e size bytes z) {ops : Array Oper} {o : Oper} {a : Act} {w : World} {K : Act → World → Prop} {Q : Exit → Act → World → Prop} {F : Prop}
    (hw : Region.wanted o (yielded ops a.tmps) = true) (s x : Operand) (hop : o.op = Op.call { callee := Callee.builtin Builtin.append, args := #[s, x], argTypes := #[t, t] })
    (v : Value) (A : Option Addr) (m c : Nat) (hs : a.eval s = v) (hx : a.eval x = .slice A m c)
    (base n : Nat) (xs news : List Value) (k : Nat) (ys : List Value) (hk : n + m = k) (hys : xs ++ news = ys) (hown : Own w base e size v n xs) (hl : news.length = m * size) (hA : 0 < m → ∃ ad, A = some ad ∧ ∀ j u, news[j]? = some u → w.cell? (ad.add j) = some u) (h1 : ∀ u ∈ news, u.oneCell' = true)
    (hb : k * bytes ≤ 140737488355328) (h63 : k ≤ maxLen) (hbase : base ≤ w.heap.size)
    (hK : ∀ A' c' w', Own w' base e size (.slice A' k c') k ys → w.grownBy w' v.ownBlock → (A'.map (·.block) = v.ownBlock ∨ A'.map (·.block) = some w.heap.size) → K (a.put o.dst (.slice A' k c')) w') :
    if Region.wanted o (yielded ops a.tmps) = true then Oper.wp P o a w K Q else F := by
  subst hk hys
  rw [if_pos hw]
  obtain ⟨v', w', hrun, h2, h3⟩ := E.append w base o.type v n xs hown A m c news hl hA h1 hb h63 hbase
  have hwh := E.append_where w base o.type v n xs hown A m c news hl hA h1 hb h63 hrun
  unfold Oper.wp execOp
  simp only [hop, resolve, invoke, builtin, Sem.run_bind, Sem.run_pure, Result.andThen_ok, List.map_toArray, List.map_cons, List.map_nil, hs, hx, hrun]
  obtain ⟨A', c', rfl⟩ := h2.shape
  refine hK A' c' w' h2 h3 ?_
  cases A' <;> simpa [Value.ownBlock] using hwh
theorem one_rest9 {F G : Nat → Option Addr → Nat → Nat → Option Addr → Nat → World → Prop} {goal : Prop} (main : (∀ g b d h a c W, F g b d h a c W → G g b d h a c W) → goal) (rest : ∀ g b d h a c W, F g b d h a c W → G g b d h a c W) : goal := main rest
theorem set_row (w : World) (v : Value) : Blk ((w.alloc (.cells #[.pointer none] 32)).setRow w.heap.size #[v]) w.heap.size 32 #[v] ∧ Same w ((w.alloc (.cells #[.pointer none] 32)).setRow w.heap.size #[v]) := row_new w 32 #[.pointer none] #[v]
set_option maxRecDepth 100000 in
set_option maxHeartbeats 8000000 in
theorem shrinks_any (w : World) (hT : Tab w) (h0 : 0 < w.heap.size) (A : Option Addr) (c : Nat) (all : List Int) (ha : Sl w (fun _ => False) 1 A all.length (icells all)) (X : Option Addr) (cx : Nat) (l : List Sr) (hl : Srs w (fun _ => False) X l) (hlb : (l.length + 1) * 32 ≤ 140737488355328)
    (s : Sr) (hs : SrOk w (fun _ => False) s) (hsb : s.ns.length ≤ 140737488355328) :
    Calls Tryd.prog 5 #[.slice A all.length c, .slice X l.length cx, .agg s.cells.toArray] w (TruePost w) := by
  have hk : Same w (w.alloc (.cells #[.int .i64 s.kd, .slice s.A s.ns.length s.c] 40)) := (Keep.refl _ _).alloc _
  have hb := Blk.made w 40 #[.int .i64 s.kd, .slice s.A s.ns.length s.c]
  have hbx : w.heap.size < (w.alloc (.cells #[.int .i64 s.kd, .slice s.A s.ns.length s.c] 40)).heap.size := hb.lt
  have HWK := hid (wakes_any (w.alloc (.cells #[.int .i64 s.kd, .slice s.A s.ns.length s.c] 40)) (hT.same h0 hk) (by omega))
  obtain ⟨sb, hsbx⟩ : ∃ x, x = w.heap.size := ⟨_, rfl⟩
  rw [← hsbx] at hb hbx
  show Calls Tryd.prog 5 #[.slice A all.length c, .slice X l.length cx, .agg #[.int .i64 s.kd, .slice s.A s.ns.length s.c]] w (TruePost w)
  unfold TruePost
  go_enter Tryd.func5, Tryd.ntmps5
  go_upto_region 1 with fail
  generalize (w.alloc (.cells #[.int .i64 s.kd, .slice s.A s.ns.length s.c] 40)) = w0 at *
  have HK0 := hid hk
  have HB0 := hid (fun W (hk2 : Same w0 W) => hb.keep (S := fun _ => False) hk2 (fun f => f))
  have HA := hid (fun W (hk2 : Same w0 W) => (ha.same hk).same hk2)
  have HS := hid (fun W (hk2 : Same w0 W) => (hl.same hk).same hk2)
  have HSO := hid (fun W (hk2 : Same w0 W) => Sl.same (Sl.same hs hk) hk2)
  have HSBX := hid hsbx
  rw [← hsbx]
  clear hT h0 ha hl hs hk hb hsbx
  go_wp2_with fail
  (with_reducible refine HWK.out.mono ?_)
  rintro e w1 ⟨rfl, hk1⟩
  have HK1 := hid hk1
  clear hk1 HWK
  have HC1 := hid (fun W (hk2 : Same w1 W) => HB0.out W (HK1.out.then hk2))
  go_upto_region 3 with fail
  by_cases h40 : (all.length : Int) > 40
  · clear hlb hsb
    refine wp_region_held_drew (S := fun W => True) (by kernel_rfl) trivial (fun hHeld => ?_)
    refine takeO (i := 0) (v := ?_) (by kernel_rfl) (by kernel_rfl) (by kernel_rfl) (fun c a d v w h => by cases d <;> exact h) (oi := ?_) ?_ ?_ (by assumption) ?_
    rotate_left 2
    · (simp only [List.getElem?_toArray, List.getElem?_cons_zero]; rfl)
    · (refine Or.inl ⟨by rfl, ?_⟩; intro w hSw; (try dsimp only at hSw); go_simp; try with_reducible rfl)
    try simp only [Act.put, List.setIfInBounds_toArray, List.set_cons_zero, List.set_cons_succ]
    refine takeO (i := 1) (v := ?_) (by kernel_rfl) (by kernel_rfl) (by kernel_rfl) (fun c a d v w h => by cases d <;> exact h) (oi := ?_) ?_ ?_ (by assumption) ?_
    rotate_left 2
    · (simp only [List.getElem?_toArray, List.getElem?_cons_succ, List.getElem?_cons_zero]; rfl)
    · (refine Or.inl ⟨by rfl, ?_⟩; intro w hSw; (try dsimp only at hSw); go_simp; try with_reducible rfl)
    try simp only [Act.put, List.setIfInBounds_toArray, List.set_cons_zero, List.set_cons_succ]
    refine takeO (i := 2) (v := ?_) (by kernel_rfl) (by kernel_rfl) (by kernel_rfl) (fun c a d v w h => by cases d <;> exact h) (oi := ?_) ?_ ?_ (by assumption) ?_
    rotate_left 2
    · (simp only [List.getElem?_toArray, List.getElem?_cons_succ, List.getElem?_cons_zero]; rfl)
    · (refine Or.inl ⟨by rfl, ?_⟩; intro w hSw; (try dsimp only at hSw); go_simp; try with_reducible rfl)
    try simp only [Act.put, List.setIfInBounds_toArray, List.set_cons_zero, List.set_cons_succ]
    refine takeO (i := 3) (v := ?_) (by kernel_rfl) (by kernel_rfl) (by kernel_rfl) (fun c a d v w h => by cases d <;> exact h) (oi := ?_) ?_ ?_ (by assumption) ?_
    rotate_left 2
    · (simp only [List.getElem?_toArray, List.getElem?_cons_succ, List.getElem?_cons_zero]; rfl)
    · (refine Or.inl ⟨by rfl, ?_⟩; intro w hSw; (try dsimp only at hSw); go_simp; try with_reducible rfl)
    try simp only [Act.put, List.setIfInBounds_toArray, List.set_cons_zero, List.set_cons_succ]
    refine takeO (i := 4) (v := undef) (by kernel_rfl) (by kernel_rfl) (by kernel_rfl) (fun c a d v w h => by cases d <;> exact h) (oi := ?_) ?_ ?_ (by assumption) ?_
    rotate_left 1
    · (simp only [List.getElem?_toArray, List.getElem?_cons_succ, List.getElem?_cons_zero]; rfl)
    · exact Or.inr ⟨by rfl, rfl⟩
    try simp only [Act.put, List.setIfInBounds_toArray, List.set_cons_zero, List.set_cons_succ]
    refine takeO (i := 5) (v := undef) (by kernel_rfl) (by kernel_rfl) (by kernel_rfl) (fun c a d v w h => by cases d <;> exact h) (oi := ?_) ?_ ?_ (by assumption) ?_
    rotate_left 1
    · (simp only [List.getElem?_toArray, List.getElem?_cons_succ, List.getElem?_cons_zero]; rfl)
    · exact Or.inr ⟨by rfl, rfl⟩
    try simp only [Act.put, List.setIfInBounds_toArray, List.set_cons_zero, List.set_cons_succ]
    refine takeO (i := 6) (v := undef) (by kernel_rfl) (by kernel_rfl) (by kernel_rfl) (fun c a d v w h => by cases d <;> exact h) (oi := ?_) ?_ ?_ (by assumption) ?_
    rotate_left 1
    · (simp only [List.getElem?_toArray, List.getElem?_cons_succ, List.getElem?_cons_zero]; rfl)
    · exact Or.inr ⟨by rfl, rfl⟩
    try simp only [Act.put, List.setIfInBounds_toArray, List.set_cons_zero, List.set_cons_succ]
    refine takeO (i := 7) (v := undef) (by kernel_rfl) (by kernel_rfl) (by kernel_rfl) (fun c a d v w h => by cases d <;> exact h) (oi := ?_) ?_ ?_ (by assumption) ?_
    rotate_left 1
    · (simp only [List.getElem?_toArray, List.getElem?_cons_succ, List.getElem?_cons_zero]; rfl)
    · exact Or.inr ⟨by rfl, rfl⟩
    try simp only [Act.put, List.setIfInBounds_toArray, List.set_cons_zero, List.set_cons_succ]
    refine takeO (i := 8) (v := undef) (by kernel_rfl) (by kernel_rfl) (by kernel_rfl) (fun c a d v w h => by cases d <;> exact h) (oi := ?_) ?_ ?_ (by assumption) ?_
    rotate_left 1
    · (simp only [List.getElem?_toArray, List.getElem?_cons_succ, List.getElem?_cons_zero]; rfl)
    · exact Or.inr ⟨by rfl, rfl⟩
    try simp only [Act.put, List.setIfInBounds_toArray, List.set_cons_zero, List.set_cons_succ]
    refine takeO (i := 9) (v := undef) (by kernel_rfl) (by kernel_rfl) (by kernel_rfl) (fun c a d v w h => by cases d <;> exact h) (oi := ?_) ?_ ?_ (by assumption) ?_
    rotate_left 1
    · (simp only [List.getElem?_toArray, List.getElem?_cons_succ, List.getElem?_cons_zero]; rfl)
    · exact Or.inr ⟨by rfl, rfl⟩
    try simp only [Act.put, List.setIfInBounds_toArray, List.set_cons_zero, List.set_cons_succ]
    refine takeO (i := 10) (v := undef) (by kernel_rfl) (by kernel_rfl) (by kernel_rfl) (fun c a d v w h => by cases d <;> exact h) (oi := ?_) ?_ ?_ (by assumption) ?_
    rotate_left 1
    · (simp only [List.getElem?_toArray, List.getElem?_cons_succ, List.getElem?_cons_zero]; rfl)
    · exact Or.inr ⟨by rfl, rfl⟩
    try simp only [Act.put, List.setIfInBounds_toArray, List.set_cons_zero, List.set_cons_succ]
    refine takeO (i := 11) (v := undef) (by kernel_rfl) (by kernel_rfl) (by kernel_rfl) (fun c a d v w h => by cases d <;> exact h) (oi := ?_) ?_ ?_ (by assumption) ?_
    rotate_left 1
    · (simp only [List.getElem?_toArray, List.getElem?_cons_succ, List.getElem?_cons_zero]; rfl)
    · exact Or.inr ⟨by rfl, rfl⟩
    try simp only [Act.put, List.setIfInBounds_toArray, List.set_cons_zero, List.set_cons_succ]
    refine takeO (i := 12) (v := ?_) (by kernel_rfl) (by kernel_rfl) (by kernel_rfl) (fun c a d v w h => by cases d <;> exact h) (oi := ?_) ?_ ?_ (by assumption) ?_
    rotate_left 2
    · (simp only [List.getElem?_toArray, List.getElem?_cons_succ, List.getElem?_cons_zero]; rfl)
    · (refine Or.inl ⟨by rfl, ?_⟩; intro w hSw; (try dsimp only at hSw); go_simp; try with_reducible rfl)
    try simp only [Act.put, List.setIfInBounds_toArray, List.set_cons_zero, List.set_cons_succ]
    refine wpAnyH_done (by kernel_rfl) ?_ _
    go_wp2_with fail
    go_ret
    exact ⟨rfl, HK0.out.then HK1.out.drew⟩
  have h40' : (all.length : Int) ≤ 40 := by omega
  clear h40
  have HAL := hid (show all.length ≤ 1000 from by omega)
  have hd40 : decide ((40 : Int) < (all.length : Int)) = false := decide_eq_false (by omega)
  obtain ⟨sm3, hsm3⟩ : ∃ b, b = smallB (l ++ [s]) := ⟨_, rfl⟩
  have HS1 := hid (HS.out _ HK1.out)
  have HSL := hid (HS1.out.row)
  have HSF := hid (fun (W : World) (A' : Option Addr) (c' : Nat) (ho : Own W w1.heap.size 40 2 (.slice A' (l.length + 1) c') (l.length + 1) (srcells l ++ s.cells)) (hk : Same w1 W) => (show Calls Tryd.prog 10 #[.slice A' (l.length + 1) c'] W (fun e w' => e = .returned (.bool sm3) ∧ w' = W) from by
    have h1 : Srs W (fun _ => False) A' (l ++ [s]) := ⟨by
      rw [srcells_snoc]
      have := ho.sl (Av := fun _ => False) (fun g hg f => f)
      simpa using this, fun t ht => by
        rw [List.mem_append] at ht
        rcases ht with ht | ht
        · exact ⟨Sl.same (HS1.out.each t ht).1 hk, (HS1.out.each t ht).2⟩
        · rw [List.mem_singleton.1 ht]; exact ⟨Sl.same (HSO.out _ HK1.out) hk, hsb⟩⟩
    have h2 := small_any W _ A' c' (l ++ [s]) h1 (by simp [maxLen]; omega)
    rw [hsm3]
    simpa using h2))
  have HSMB := hid hsm3
  have HS3 := hid (fun W (hk : Same w1 W) => HC1.out W hk)
  clear hsm3
  refine wp_region_held_drew (S := fun W => Blk W sb 40 #[.int .i64 s.kd, .slice s.A s.ns.length s.c]) (by kernel_rfl) (HS3.out _ (Keep.refl _ _).drew) (fun hHeld => ?_)
  refine takeO (i := 0) (v := ?_) (by kernel_rfl) (by kernel_rfl) (by kernel_rfl) (fun c a d v w h => by cases d <;> exact h) (oi := ?_) ?_ ?_ (by assumption) ?_
  rotate_left 2
  · (simp only [List.getElem?_toArray, List.getElem?_cons_zero]; rfl)
  · (refine Or.inl ⟨by rfl, ?_⟩; intro w hSw; (try dsimp only at hSw); go_simp; try with_reducible rfl)
  try simp only [Act.put, List.setIfInBounds_toArray, List.set_cons_zero, List.set_cons_succ]
  refine takeO (i := 1) (v := ?_) (by kernel_rfl) (by kernel_rfl) (by kernel_rfl) (fun c a d v w h => by cases d <;> exact h) (oi := ?_) ?_ ?_ (by assumption) ?_
  rotate_left 2
  · (simp only [List.getElem?_toArray, List.getElem?_cons_succ, List.getElem?_cons_zero]; rfl)
  · (refine Or.inl ⟨by rfl, ?_⟩; intro w hSw; (try dsimp only at hSw); go_simp; try with_reducible rfl)
  try simp only [Act.put, List.setIfInBounds_toArray, List.set_cons_zero, List.set_cons_succ]
  refine takeO (i := 2) (v := ?_) (by kernel_rfl) (by kernel_rfl) (by kernel_rfl) (fun c a d v w h => by cases d <;> exact h) (oi := ?_) ?_ ?_ (by assumption) ?_
  rotate_left 2
  · (simp only [List.getElem?_toArray, List.getElem?_cons_succ, List.getElem?_cons_zero]; rfl)
  · (refine Or.inl ⟨by rfl, ?_⟩; intro w hSw; (try dsimp only at hSw); go_simp; try with_reducible rfl)
  try simp only [Act.put, List.setIfInBounds_toArray, List.set_cons_zero, List.set_cons_succ]
  refine takeO (i := 3) (v := ?_) (by kernel_rfl) (by kernel_rfl) (by kernel_rfl) (fun c a d v w h => by cases d <;> exact h) (oi := ?_) ?_ ?_ (by assumption) ?_
  rotate_left 2
  · (simp only [List.getElem?_toArray, List.getElem?_cons_succ, List.getElem?_cons_zero]; rfl)
  · (refine Or.inl ⟨by rfl, ?_⟩; intro w hSw; (try dsimp only at hSw); go_simp; try with_reducible rfl)
  try simp only [Act.put, List.setIfInBounds_toArray, List.set_cons_zero, List.set_cons_succ]
  refine takeO (i := 5) (v := ?_) (by kernel_rfl) (by kernel_rfl) (by kernel_rfl) (fun c a d v w h => by cases d <;> exact h) (oi := ?_) ?_ ?_ (by assumption) ?_
  rotate_left 2
  · (simp only [List.getElem?_toArray, List.getElem?_cons_succ, List.getElem?_cons_zero]; rfl)
  · (refine Or.inl ⟨by rfl, ?_⟩; intro w hSw; (try dsimp only at hSw); go_simp; try with_reducible rfl)
  try simp only [Act.put, List.setIfInBounds_toArray, List.set_cons_zero, List.set_cons_succ]
  refine takeLw (i := 7) (by kernel_rfl) (by kernel_rfl) (by kernel_rfl) (fun c a d v w h => by cases d <;> exact h) (oi := ?_) ?_ ?_ _ (.tmp 5) ?_ (sb) ?_ 40 (#[.int .i64 s.kd, .slice s.A s.ns.length s.c]) (0, 0) _ (fun W hW => hW) Tryd.underlying40 rfl (by kernel_rfl) (by assumption) ?_
  rotate_left 1
  · (simp only [List.getElem?_toArray, List.getElem?_cons_succ, List.getElem?_cons_zero]; rfl)
  · rfl
  · rfl
  · rfl
  try simp only [Act.put, List.setIfInBounds_toArray, List.set_cons_zero, List.set_cons_succ]
  clear hHeld
  apply one_rest9 (F := fun _ _ _ _ _ _ W => Same w1 W)
  case main =>
    intro REST
    have hkd : Same w1 w1.drew := (Keep.refl _ _).drew
    generalize w1.drew = wd at *
    refine wpAnyH_ready (rs := [4, 8]) (by kernel_rfl) (by simp) ?_
    refine AllReadyH.cons rfl (fun K hK => ?_) (AllReadyH.cons rfl (fun K hK => ?_) AllReadyH.nil)
    · go_simp
      have hb1 := Blk.made (wd) 40 #[]
      have hk1 : Same (wd) ((wd).alloc (.cells #[] 40)) := (Keep.refl _ _).alloc _
      have ho1 := Own.lit0 (wd) 40 2
      obtain ⟨g1, hg1⟩ : ∃ g, g = (wd).heap.size := ⟨_, rfl⟩
      rw [← hg1] at hb1 ho1 ⊢
      have hlo1 : w1.heap.size ≤ g1 := by rw [hg1]; exact (hkd).size
      clear hg1
      generalize ((wd).alloc (.cells #[] 40)) = wo1 at *
      have hK1 : Same w1 wo1 := (hkd).then hk1
      have ho_1 := Own.rebase (base' := w1.heap.size) ho1 (fun x e => by simp [Value.ownBlock] at e; omega)
      refine hK.out _ _ (HS3.out _ (hK1)) (fun hHeld1 => ?_)
      clear hK K
      try simp only [Act.put, List.setIfInBounds_toArray, List.set_cons_zero, List.set_cons_succ]
      refine wpAnyH_ready (rs := [6, 8]) (by kernel_rfl) (by simp) ?_
      refine AllReadyH.cons rfl (fun K hK => ?_) (AllReadyH.cons rfl (fun K hK => ?_) AllReadyH.nil)
      · refine ESrc.step2g (by rfl) (.tmp 20) (.tmp 21) rfl (.slice (some ⟨g1, 0, none⟩) 0 0) X l.length cx rfl rfl w1.heap.size 0 [] (srcells l) l.length (srcells l) (Nat.zero_add _) (List.nil_append _) (ho_1) (srcells_len l) (Sl.src HSL.out (hK1)) (srcs_one l) (by omega) (by unfold maxLen; omega) (hK1).size ?_
        intro A2 c2 w_2 ho2 hg2 _
        have hK2 : Same w1 w_2 := Keep.grown (hK1) hg2 (fun x e hl => by have := Own.block (ho_1) x e; omega)
        clear hg2
        refine hK.out _ _ (HS3.out _ (hK2)) (fun hHeld2 => ?_)
        clear hK K
        try simp only [Act.put, List.setIfInBounds_toArray]
        refine wpAnyH_ready (rs := [8]) (by kernel_rfl) (by simp) ?_
        refine AllReadyH.cons rfl (fun K hK => ?_) AllReadyH.nil
        go_simp
        have hb3 := Blk.made (w_2) 40 #[.int .i64 s.kd, .slice s.A s.ns.length s.c]
        have hk3 : Same (w_2) ((w_2).alloc (.cells #[.int .i64 s.kd, .slice s.A s.ns.length s.c] 40)) := (Keep.refl _ _).alloc _
        obtain ⟨g3, hg3⟩ : ∃ g, g = (w_2).heap.size := ⟨_, rfl⟩
        rw [← hg3] at hb3 ⊢
        have hlo3 : w1.heap.size ≤ g3 := by rw [hg3]; exact (hK2).size
        clear hg3
        generalize ((w_2).alloc (.cells #[.int .i64 s.kd, .slice s.A s.ns.length s.c] 40)) = wo3 at *
        have hK3 : Same w1 wo3 := (hK2).then hk3
        have ho_3 := Own.keep (ho2) hk3 (fun _ _ _ f => f)
        refine hK.out _ _ (HS3.out _ (hK3)) (fun hHeld3 => ?_)
        clear hK K
        try simp only [Act.put, List.setIfInBounds_toArray, List.set_cons_zero, List.set_cons_succ]
        refine wpAnyH_ready (rs := [9]) (by kernel_rfl) (by simp) ?_
        refine AllReadyH.cons rfl (fun K hK => ?_) AllReadyH.nil
        refine ESrc.step2g (by rfl) (.tmp 22) (.tmp 24) rfl (.slice A2 l.length c2) (some ⟨g3, 0, none⟩) 1 1 rfl rfl w1.heap.size l.length (srcells l) (s.cells) (l.length + 1) (srcells l ++ s.cells) rfl rfl (ho_3) rfl (fun _ => ⟨_, rfl, src_blk (hb3)⟩) (src_one s) (by omega) (by unfold maxLen; omega) (hK3).size ?_
        intro A4 c4 w_4 ho4 hg4 _
        have hK4 : Same w1 w_4 := Keep.grown (hK3) hg4 (fun x e hl => by have := Own.block (ho_3) x e; omega)
        clear hg4
        refine hK.out _ _ (HS3.out _ (hK4)) (fun hHeld4 => ?_)
        clear hK K
        try simp only [Act.put, List.setIfInBounds_toArray]
        refine wpAnyH_ready (rs := [10]) (by kernel_rfl) (by simp) ?_
        refine AllReadyH.cons rfl (fun K hK => ?_) AllReadyH.nil
        go_simp
        refine (HSF.out _ _ _ ho4 (hK4)).mono ?_
        rintro e w_x ⟨rfl, hwx⟩
        subst hwx
        refine hK.out _ _ (HS3.out _ (hK4)) (fun hHeldx => ?_)
        clear hK K
        try simp only [Act.put, List.setIfInBounds_toArray, List.set_cons_zero, List.set_cons_succ]
        refine takeO (i := 11) (v := ?_) (by kernel_rfl) (by kernel_rfl) (by kernel_rfl) (fun c a d v w h => by cases d <;> exact h) (oi := ?_) ?_ ?_ (by assumption) ?_
        rotate_left 2
        · (simp only [List.getElem?_toArray, List.getElem?_cons_succ, List.getElem?_cons_zero]; rfl)
        · (refine Or.inl ⟨by rfl, ?_⟩; intro w hSw; (try dsimp only at hSw); go_simp; try with_reducible rfl)
        try simp only [Act.put, List.setIfInBounds_toArray, List.set_cons_zero, List.set_cons_succ]
        refine takeO (i := 12) (v := ?_) (by kernel_rfl) (by kernel_rfl) (by kernel_rfl) (fun c a d v w h => by cases d <;> exact h) (oi := ?_) ?_ ?_ (by assumption) ?_
        rotate_left 2
        · (simp only [List.getElem?_toArray, List.getElem?_cons_succ, List.getElem?_cons_zero]; rfl)
        · (refine Or.inl ⟨by rfl, ?_⟩; intro w hSw; (try dsimp only at hSw); go_simp; try with_reducible rfl)
        try simp only [Act.put, List.setIfInBounds_toArray, List.set_cons_zero, List.set_cons_succ]
        refine wpAnyH_done (by kernel_rfl) ?_ _
        exact REST g1 A2 c2 g3 A4 c4 _ (hK4)
      · go_simp
        have hb5 := Blk.made (wo1) 40 #[.int .i64 s.kd, .slice s.A s.ns.length s.c]
        have hk5 : Same (wo1) ((wo1).alloc (.cells #[.int .i64 s.kd, .slice s.A s.ns.length s.c] 40)) := (Keep.refl _ _).alloc _
        obtain ⟨g5, hg5⟩ : ∃ g, g = (wo1).heap.size := ⟨_, rfl⟩
        rw [← hg5] at hb5 ⊢
        have hlo5 : w1.heap.size ≤ g5 := by rw [hg5]; exact (hK1).size
        have hne5 : g1 ≠ g5 := by have := Blk.lt (hb1); omega
        clear hg5
        generalize ((wo1).alloc (.cells #[.int .i64 s.kd, .slice s.A s.ns.length s.c] 40)) = wo5 at *
        have hK5 : Same w1 wo5 := (hK1).then hk5
        have hb_5E0 := Blk.keep (hb1) hk5 (fun f => f)
        have ho_5 := Own.keep (ho_1) hk5 (fun _ _ _ f => f)
        refine hK.out _ _ (HS3.out _ (hK5)) (fun hHeld5 => ?_)
        clear hK K
        try simp only [Act.put, List.setIfInBounds_toArray, List.set_cons_zero, List.set_cons_succ]
        refine wpAnyH_ready (rs := [6]) (by kernel_rfl) (by simp) ?_
        refine AllReadyH.cons rfl (fun K hK => ?_) AllReadyH.nil
        refine ESrc.step2g (by rfl) (.tmp 20) (.tmp 21) rfl (.slice (some ⟨g1, 0, none⟩) 0 0) X l.length cx rfl rfl w1.heap.size 0 [] (srcells l) l.length (srcells l) (Nat.zero_add _) (List.nil_append _) (ho_5) (srcells_len l) (Sl.src HSL.out (hK5)) (srcs_one l) (by omega) (by unfold maxLen; omega) (hK5).size ?_
        intro A6 c6 w_6 ho6 hg6 _
        have hK6 : Same w1 w_6 := Keep.grown (hK5) hg6 (fun x e hl => by have := Own.block (ho_5) x e; omega)
        have hb_6 := Blk.keep (hb5) ((Keep.refl (· = g1) _).grown hg6 (fun x e _ => by simp [Value.ownBlock] at e; exact e.symm)) (Ne.symm hne5)
        clear hg6
        refine hK.out _ _ (HS3.out _ (hK6)) (fun hHeld6 => ?_)
        clear hK K
        try simp only [Act.put, List.setIfInBounds_toArray]
        refine wpAnyH_ready (rs := [9]) (by kernel_rfl) (by simp) ?_
        refine AllReadyH.cons rfl (fun K hK => ?_) AllReadyH.nil
        refine ESrc.step2g (by rfl) (.tmp 22) (.tmp 24) rfl (.slice A6 l.length c6) (some ⟨g5, 0, none⟩) 1 1 rfl rfl w1.heap.size l.length (srcells l) (s.cells) (l.length + 1) (srcells l ++ s.cells) rfl rfl (ho6) rfl (fun _ => ⟨_, rfl, src_blk (hb_6)⟩) (src_one s) (by omega) (by unfold maxLen; omega) (hK6).size ?_
        intro A7 c7 w_7 ho7 hg7 _
        have hK7 : Same w1 w_7 := Keep.grown (hK6) hg7 (fun x e hl => by have := Own.block (ho6) x e; omega)
        clear hg7
        refine hK.out _ _ (HS3.out _ (hK7)) (fun hHeld7 => ?_)
        clear hK K
        try simp only [Act.put]
        refine wpAnyH_ready (rs := [10]) (by kernel_rfl) (by simp) ?_
        refine AllReadyH.cons rfl (fun K hK => ?_) AllReadyH.nil
        go_simp
        refine (HSF.out _ _ _ ho7 (hK7)).mono ?_
        rintro e w_x ⟨rfl, hwx⟩
        subst hwx
        refine hK.out _ _ (HS3.out _ (hK7)) (fun hHeldx => ?_)
        clear hK K
        try simp only [Act.put, List.setIfInBounds_toArray, List.set_cons_zero, List.set_cons_succ]
        refine takeO (i := 11) (v := ?_) (by kernel_rfl) (by kernel_rfl) (by kernel_rfl) (fun c a d v w h => by cases d <;> exact h) (oi := ?_) ?_ ?_ (by assumption) ?_
        rotate_left 2
        · (simp only [List.getElem?_toArray, List.getElem?_cons_succ, List.getElem?_cons_zero]; rfl)
        · (refine Or.inl ⟨by rfl, ?_⟩; intro w hSw; (try dsimp only at hSw); go_simp; try with_reducible rfl)
        try simp only [Act.put, List.setIfInBounds_toArray, List.set_cons_zero, List.set_cons_succ]
        refine takeO (i := 12) (v := ?_) (by kernel_rfl) (by kernel_rfl) (by kernel_rfl) (fun c a d v w h => by cases d <;> exact h) (oi := ?_) ?_ ?_ (by assumption) ?_
        rotate_left 2
        · (simp only [List.getElem?_toArray, List.getElem?_cons_succ, List.getElem?_cons_zero]; rfl)
        · (refine Or.inl ⟨by rfl, ?_⟩; intro w hSw; (try dsimp only at hSw); go_simp; try with_reducible rfl)
        try simp only [Act.put, List.setIfInBounds_toArray, List.set_cons_zero, List.set_cons_succ]
        refine wpAnyH_done (by kernel_rfl) ?_ _
        exact REST g1 A6 c6 g5 A7 c7 _ (hK7)
    · go_simp
      have hb8 := Blk.made (wd) 40 #[.int .i64 s.kd, .slice s.A s.ns.length s.c]
      have hk8 : Same (wd) ((wd).alloc (.cells #[.int .i64 s.kd, .slice s.A s.ns.length s.c] 40)) := (Keep.refl _ _).alloc _
      obtain ⟨g8, hg8⟩ : ∃ g, g = (wd).heap.size := ⟨_, rfl⟩
      rw [← hg8] at hb8 ⊢
      have hlo8 : w1.heap.size ≤ g8 := by rw [hg8]; exact (hkd).size
      clear hg8
      generalize ((wd).alloc (.cells #[.int .i64 s.kd, .slice s.A s.ns.length s.c] 40)) = wo8 at *
      have hK8 : Same w1 wo8 := (hkd).then hk8
      refine hK.out _ _ (HS3.out _ (hK8)) (fun hHeld8 => ?_)
      clear hK K
      try simp only [Act.put, List.setIfInBounds_toArray, List.set_cons_zero, List.set_cons_succ]
      refine wpAnyH_ready (rs := [4]) (by kernel_rfl) (by simp) ?_
      refine AllReadyH.cons rfl (fun K hK => ?_) AllReadyH.nil
      go_simp
      have hb9 := Blk.made (wo8) 40 #[]
      have hk9 : Same (wo8) ((wo8).alloc (.cells #[] 40)) := (Keep.refl _ _).alloc _
      have ho9 := Own.lit0 (wo8) 40 2
      obtain ⟨g9, hg9⟩ : ∃ g, g = (wo8).heap.size := ⟨_, rfl⟩
      rw [← hg9] at hb9 ho9 ⊢
      have hlo9 : w1.heap.size ≤ g9 := by rw [hg9]; exact (hK8).size
      have hne9 : g8 ≠ g9 := by have := Blk.lt (hb8); omega
      clear hg9
      generalize ((wo8).alloc (.cells #[] 40)) = wo9 at *
      have hK9 : Same w1 wo9 := (hK8).then hk9
      have hb_9B := Blk.keep (hb8) hk9 (fun f => f)
      have ho_9 := Own.rebase (base' := w1.heap.size) ho9 (fun x e => by simp [Value.ownBlock] at e; omega)
      refine hK.out _ _ (HS3.out _ (hK9)) (fun hHeld9 => ?_)
      clear hK K
      try simp only [Act.put, List.setIfInBounds_toArray, List.set_cons_zero, List.set_cons_succ]
      refine wpAnyH_ready (rs := [6]) (by kernel_rfl) (by simp) ?_
      refine AllReadyH.cons rfl (fun K hK => ?_) AllReadyH.nil
      refine ESrc.step2g (by rfl) (.tmp 20) (.tmp 21) rfl (.slice (some ⟨g9, 0, none⟩) 0 0) X l.length cx rfl rfl w1.heap.size 0 [] (srcells l) l.length (srcells l) (Nat.zero_add _) (List.nil_append _) (ho_9) (srcells_len l) (Sl.src HSL.out (hK9)) (srcs_one l) (by omega) (by unfold maxLen; omega) (hK9).size ?_
      intro A10 c10 w_10 ho10 hg10 _
      have hK10 : Same w1 w_10 := Keep.grown (hK9) hg10 (fun x e hl => by have := Own.block (ho_9) x e; omega)
      have hb_10 := Blk.keep (hb_9B) ((Keep.refl (· = g9) _).grown hg10 (fun x e _ => by simp [Value.ownBlock] at e; exact e.symm)) hne9
      clear hg10
      refine hK.out _ _ (HS3.out _ (hK10)) (fun hHeld10 => ?_)
      clear hK K
      try simp only [Act.put, List.setIfInBounds_toArray]
      refine wpAnyH_ready (rs := [9]) (by kernel_rfl) (by simp) ?_
      refine AllReadyH.cons rfl (fun K hK => ?_) AllReadyH.nil
      refine ESrc.step2g (by rfl) (.tmp 22) (.tmp 24) rfl (.slice A10 l.length c10) (some ⟨g8, 0, none⟩) 1 1 rfl rfl w1.heap.size l.length (srcells l) (s.cells) (l.length + 1) (srcells l ++ s.cells) rfl rfl (ho10) rfl (fun _ => ⟨_, rfl, src_blk (hb_10)⟩) (src_one s) (by omega) (by unfold maxLen; omega) (hK10).size ?_
      intro A11 c11 w_11 ho11 hg11 _
      have hK11 : Same w1 w_11 := Keep.grown (hK10) hg11 (fun x e hl => by have := Own.block (ho10) x e; omega)
      clear hg11
      refine hK.out _ _ (HS3.out _ (hK11)) (fun hHeld11 => ?_)
      clear hK K
      try simp only [Act.put]
      refine wpAnyH_ready (rs := [10]) (by kernel_rfl) (by simp) ?_
      refine AllReadyH.cons rfl (fun K hK => ?_) AllReadyH.nil
      go_simp
      refine (HSF.out _ _ _ ho11 (hK11)).mono ?_
      rintro e w_x ⟨rfl, hwx⟩
      subst hwx
      refine hK.out _ _ (HS3.out _ (hK11)) (fun hHeldx => ?_)
      clear hK K
      try simp only [Act.put, List.setIfInBounds_toArray, List.set_cons_zero, List.set_cons_succ]
      refine takeO (i := 11) (v := ?_) (by kernel_rfl) (by kernel_rfl) (by kernel_rfl) (fun c a d v w h => by cases d <;> exact h) (oi := ?_) ?_ ?_ (by assumption) ?_
      rotate_left 2
      · (simp only [List.getElem?_toArray, List.getElem?_cons_succ, List.getElem?_cons_zero]; rfl)
      · (refine Or.inl ⟨by rfl, ?_⟩; intro w hSw; (try dsimp only at hSw); go_simp; try with_reducible rfl)
      try simp only [Act.put, List.setIfInBounds_toArray, List.set_cons_zero, List.set_cons_succ]
      refine takeO (i := 12) (v := ?_) (by kernel_rfl) (by kernel_rfl) (by kernel_rfl) (fun c a d v w h => by cases d <;> exact h) (oi := ?_) ?_ ?_ (by assumption) ?_
      rotate_left 2
      · (simp only [List.getElem?_toArray, List.getElem?_cons_succ, List.getElem?_cons_zero]; rfl)
      · (refine Or.inl ⟨by rfl, ?_⟩; intro w hSw; (try dsimp only at hSw); go_simp; try with_reducible rfl)
      try simp only [Act.put, List.setIfInBounds_toArray, List.set_cons_zero, List.set_cons_succ]
      refine wpAnyH_done (by kernel_rfl) ?_ _
      exact REST g9 A10 c10 g8 A11 c11 _ (hK11)
  case rest =>
  intro _ _ _ _ _ _ w3 hF
  have HKR := hid hF
  clear hF HSF HSL HS1 hd40
  cases sm3 with
  | false =>
    go_wp2_with fail
    go_ret
    exact ⟨rfl, HK0.out.then (HK1.out.then HKR.out)⟩
  | true =>
  have HN := hid (small_bounds HSMB.out.symm)
  have HNL := hid (show l.length ≤ 70 ∧ (∀ t ∈ l, t.ns.length ≤ 300) ∧ s.ns.length ≤ 300 from ⟨by have := HN.out.1; simp at this; omega, fun t ht => HN.out.2 t (by simp [ht]), HN.out.2 s (by simp)⟩)
  have HKA := hid (HK1.out.then HKR.out)
  clear h40' hlb hsb
  have HTD := hid (run_any w3 A c all (HA.out _ HKA.out) HAL.out X cx l (HS.out _ HKA.out) (fun s hs => by have := HNL.out.2.1 s hs; omega) (by have := HNL.out.1; omega))
  unfold RunPost at HTD
  go_wp2_with fail
  (with_reducible refine HTD.out.mono ?_)
  rintro e w4 (⟨hz, rfl, hk4⟩ | ⟨hz, eb, r, base, p, rfl, hE4, hbase, _, hk4⟩)
  · go_wp2_with (refine wpList_store_row rfl _ (.tmp 8) (.tmp 34) rfl w4.heap.size #[.slice none 0 0, .slice none 0 0, .slice none 0 0, .slice none 0 0] rfl rfl 36 _ (Blk.made w4 _ _) (by kernel_rfl) rfl (by simp [Value.oneCell']) ?_)
    go_ret
    exact ⟨rfl, HK0.out.then (HKA.out.then (hk4.then (row_new w4 36 #[.slice none 0 0, .slice none 0 0, .slice none 0 0, .slice none 0 0] #[.slice none 0 0, .slice none 0 0, .slice none 0 0, .slice none 0 0]).2))⟩
  have HZ := hid hz
  have HK4 := hid (HKA.out.then hk4)
  have HE4 := hid hE4
  have HBASE := hid (show w0.heap.size ≤ base from by have := HKA.out.size; omega)
  clear hz hE4 hk4 HTD hbase
  go_upto_region 6 with (refine wpList_store_row rfl _ (.tmp 8) (.tmp 34) rfl w4.heap.size p.cells.toArray rfl rfl 36 _ (Blk.made w4 _ _) (by kernel_rfl) rfl (one_toArray (sp_one _)) ?_)
  have hrn := row_new w4 36 #[.slice none 0 0, .slice none 0 0, .slice none 0 0, .slice none 0 0] p.cells.toArray
  generalize (((w4.alloc (.cells #[.slice none 0 0, .slice none 0 0, .slice none 0 0, .slice none 0 0] 36)).setRow w4.heap.size p.cells.toArray)) = w5 at *
  have HK5 := hid (HK4.out.then hrn.2)
  have HE5 := hid (HE4.out.same hrn.2)
  clear hrn
  have HND := hid (nodes_is w5 eb r base (ofW all) _ _ HE5.out)
  go_wp2_with fail
  (with_reducible refine HND.out.mono ?_)
  rintro e w6 ⟨v6, rfl, hs6, hk6⟩
  have HK6 := hid (HK5.out.then hk6)
  have HS6 := hid hs6
  have HE6 := hid (HE5.out.same hk6)
  clear hs6 hk6 HND
  go_upto_region 9 with (refine wpList_store_row rfl _ (.tmp 10) (.tmp 39) rfl w6.heap.size #[v6] rfl rfl 32 _ (Blk.made w6 _ _) (by kernel_rfl) rfl HS6.out.one ?_)
  have hrn := set_row w6 v6
  obtain ⟨b10, hb10⟩ : ∃ x, x = w6.heap.size := ⟨_, rfl⟩
  rw [← hb10] at hrn ⊢
  generalize (((w6.alloc (.cells #[.pointer none] 32)).setRow b10 #[v6])) = w7 at *
  have HB7 := hid hrn.1
  have HK7 := hid (HK6.out.then hrn.2)
  have HE7 := hid (HE6.out.same hrn.2)
  have HS7 := hid (HS6.out.same hrn.2)
  clear hrn hb10
  have HADD := hid (show Calls Tryd.prog 14 #[.pointer (some ⟨eb, 0, none⟩), .agg #[.int .i64 s.kd, .slice s.A s.ns.length s.c]] w7 _ from add_is w7 eb r base (ofW all) _ _ HE7.out s _ (HSO.out _ HK7.out) (by have := HNL.out.2.2; omega))
  have HPL := hid (And.intro (addS_less (runS_ok (ofW_ok all) (keys l)) (runS (ofW all) (keys l)).2.length s.key.1 s.key.2) (And.intro (addS_ne (run_ne HZ.out (keys l)) (runS (ofW all) (keys l)).2.length s.key.1 s.key.2) (And.intro (addS_sub (runS_ok (ofW_ok all) (keys l)) (runS (ofW all) (keys l)).2.length s.key.1 s.key.2) (And.intro (run_sub (ofW_ok all) (keys l)) (And.intro (runS_ok (ofW_ok all) (keys l)) (addS_ok (runS_ok (ofW_ok all) (keys l)) (runS (ofW all) (keys l)).2.length s.key.1 s.key.2))))))
  have hst : (stepS ((runS (ofW all) (keys l)).1, (runS (ofW all) (keys l)).2) s.key).1 = (addS (runS (ofW all) (keys l)).1 (runS (ofW all) (keys l)).2.length s.key.1 s.key.2).1 := rfl
  rw [hst] at HADD
  clear hst
  generalize (stepS ((runS (ofW all) (keys l)).1, (runS (ofW all) (keys l)).2) s.key).2 = L2 at *
  generalize addS (runS (ofW all) (keys l)).1 (runS (ofW all) (keys l)).2.length s.key.1 s.key.2 = R at *
  obtain ⟨N1, ob, sm, er⟩ := R
  simp only at HADD HPL
  generalize (runS (ofW all) (keys l)).1 = N0 at *
  generalize (runS (ofW all) (keys l)).2 = L1 at *
  go_upto_region 10 with (first
    | (refine wpList_load_row rfl _ (.tmp 5) rfl sb rfl _ #[.int .i64 s.kd, .slice s.A s.ns.length s.c] (0, 0) _ (HB0.out _ HK7.out) Tryd.underlying40 rfl (by kernel_rfl) ?_)
    | ((with_reducible refine HADD.out.mono ?_); rintro e w8 ⟨rfl, r8, hE8, hk8, hr8⟩; have HE8 := hid hE8; have HK8 := hid hk8; clear hE8 hk8 hr8))
  have HB8 := hid (HB7.out.keep HK8.out (HE7.out.ne HB7.out (by decide) (by decide)))
  have HS8 := hid (show IsSet w8 v6 N0 from HS7.out.keepBut HK8.out (fun g cs hb => HE7.out.ne hb (by decide) (by decide)))
  have HKW8 := hid (HE7.out.low HK8.out w0 HK7.out HBASE.out)
  have HND := hid (nodes_is w8 eb r8 base (ofW all) _ _ HE8.out)
  go_wp2_with fail
  (with_reducible refine HND.out.mono ?_)
  rintro e w9 ⟨v9, rfl, hs9, hk9⟩
  have HK9 := hid (HKW8.out.then hk9)
  have HS9 := hid hs9
  have HB9 := hid (HB8.out.keep hk9 (fun f => f))
  have HS89 := hid (HS8.out.same hk9)
  clear hs9 hk9 HND
  go_upto_region 11 with (refine wpList_store_row rfl _ (.tmp 13) (.tmp 47) rfl w9.heap.size #[v9] rfl rfl 32 _ (Blk.made w9 _ _) (by kernel_rfl) rfl HS9.out.one ?_)
  have hrn := set_row w9 v9
  obtain ⟨b13, hb13⟩ : ∃ x, x = w9.heap.size := ⟨_, rfl⟩
  rw [← hb13] at hrn ⊢
  generalize (((w9.alloc (.cells #[.pointer none] 32)).setRow b13 #[v9])) = wa at *
  have HBA := hid (fun W (hk : Same wa W) => hrn.1.keep (S := fun _ => False) hk (fun f => f))
  have HBB := hid (fun W (hk : Same wa W) => (HB9.out.keep hrn.2 (fun f => f)).keep (S := fun _ => False) hk (fun f => f))
  have HKA2 := hid (HK9.out.then hrn.2)
  have HV1 := hid (fun W (hk : Same wa W) => (HS9.out.same hrn.2).same hk)
  have HV0 := hid (fun W (hk : Same wa W) => (HS89.out.same hrn.2).same hk)
  clear hrn hb13
  obtain ⟨n1, hn1⟩ : ∃ n : Int, n = ((elemsW N1).length : Nat) := ⟨_, rfl⟩
  obtain ⟨n0, hn0⟩ : ∃ n : Int, n = ((elemsW N0).length : Nat) := ⟨_, rfl⟩
  have hpl := HPL.out
  have hn1p : decide ((0 : Int) < n1) = true := by
    have h1 := elemsW_pos hpl.2.2.2.2.2
    have h2 : n1 ≠ 0 := fun e => hpl.2.1 (h1.1 (by omega))
    exact decide_eq_true (by omega)
  have HLE1 := hid (fun W (hk : Same wa W) => (show Calls Tryd.prog 22 #[.agg #[v9]] W (fun e w' => e = .returned (.int .i64 n1) ∧ Same W w') from by rw [hn1]; exact len_any W v9 N1 (HV1.out W hk)))
  have HLE0 := hid (fun W (hk : Same wa W) => (show Calls Tryd.prog 22 #[.agg #[v6]] W (fun e w' => e = .returned (.int .i64 n0) ∧ Same W w') from by rw [hn0]; exact len_any W v6 N0 (HV0.out W hk)))
  have HLZ := hid (fun W v (hs : IsSet W v zeroW) => (show Calls Tryd.prog 22 #[.agg #[v]] W (fun e w' => e = .returned (.int .i64 0) ∧ Same W w') from by
    have := len_any W v zeroW hs
    rwa [elems_zero] at this))
  have HD0 := hid (fun W (hk : Same wa W) => (show Calls Tryd.prog 23 #[.agg #[v9], .agg #[v6]] W (SetPost W zeroW) from by
    have := diff_any W v9 v6 N1 N0 (HV1.out W hk) (HV0.out W hk)
    rwa [diff_zero hpl.2.2.2.2.2 hpl.2.2.2.2.1 hpl.2.2.1] at this))
  have HDA := hid (fun W va (hk : Same wa W) (hs : IsSet W va (ofW all)) => (show Calls Tryd.prog 23 #[.agg #[v9], .agg #[va]] W (SetPost W zeroW) from by
    have := diff_any W v9 va N1 (ofW all) (HV1.out W hk) hs
    rwa [diff_zero hpl.2.2.2.2.2 (ofW_ok all) (fun m hm h => hpl.2.2.2.1 m hm (hpl.2.2.1 m hm h))] at this))
  have HOF := hid (fun W (hk : Same wa W) => of_any W _ A all c (HA.out _ (HKA2.out.then hk)) (by have := HAL.out; omega))
  unfold SetPost at HD0 HDA HOF
  have hsm : sm = decide (n1 < n0) := by rw [hpl.1]; exact decide_eq_decide.2 (by omega)
  subst hsm
  have HSA := hid (fun W (hk : Same wa W) => (show Blk W b10 32 #[v6] ∧ Blk W b13 32 #[v9] from ⟨HBB.out W hk, HBA.out W hk⟩))
  clear hpl hn1 hn0 HPL
  refine wp_region_held_drew (S := fun W => Blk W b10 32 #[v6] ∧ Blk W b13 32 #[v9]) (by kernel_rfl) (HSA.out _ (Keep.refl _ _).drew) (fun hHeld => ?_)
  refine takeL (i := 0) (by kernel_rfl) (by kernel_rfl) (by kernel_rfl) (fun c a d v w h => by cases d <;> exact h) (oi := ?_) ?_ _ (.tmp 13) ?_ ?_ (b13) ?_ 32 (#[v9]) (0, 0) _ (fun W hW => hW.2) Tryd.underlying32 rfl (by kernel_rfl) (by assumption) ?_
  rotate_left 1
  · (simp only [List.getElem?_toArray, List.getElem?_cons_zero]; rfl)
  · rfl
  · rfl
  · rfl
  try simp only [Act.put, List.setIfInBounds_toArray, List.set_cons_zero, List.set_cons_succ]
  refine wpAnyH_ready (rs := [1]) (by kernel_rfl) (by simp) ?_
  refine AllReadyH.cons rfl (fun K hK => ?_) AllReadyH.nil
  go_simp
  refine (HLE1.out _ ((Keep.refl _ _).drew)).mono ?_
  rintro e w_1 ⟨rfl, hk1⟩
  have HK1 := hid (show Same wa w_1 from ((Keep.refl _ _).drew).then hk1)
  clear hk1
  refine hK.out _ _ (HSA.out _ HK1.out) (fun hHeld1 => ?_)
  clear hK K
  try simp only [Act.put, List.setIfInBounds_toArray, List.set_cons_zero, List.set_cons_succ]
  refine takeO (i := 2) (v := ?_) (by kernel_rfl) (by kernel_rfl) (by kernel_rfl) (fun c a d v w h => by cases d <;> exact h) (oi := ?_) ?_ ?_ (by assumption) ?_
  rotate_left 2
  · (simp only [List.getElem?_toArray, List.getElem?_cons_succ, List.getElem?_cons_zero]; rfl)
  · (refine Or.inl ⟨by rfl, ?_⟩; intro w hSw; (try dsimp only at hSw); go_simp; try with_reducible rfl)
  try simp only [Act.put, List.setIfInBounds_toArray, List.set_cons_zero, List.set_cons_succ]
  refine takeO (i := 3) (v := ?_) (by kernel_rfl) (by kernel_rfl) (by kernel_rfl) (fun c a d v w h => by cases d <;> exact h) (oi := ?_) ?_ ?_ (by assumption) ?_
  rotate_left 2
  · (simp only [List.getElem?_toArray, List.getElem?_cons_succ, List.getElem?_cons_zero]; rfl)
  · (refine Or.inl ⟨by rfl, ?_⟩; intro w hSw; (try dsimp only at hSw); go_simp; try with_reducible rfl)
  try simp only [Act.put, List.setIfInBounds_toArray, List.set_cons_zero, List.set_cons_succ]
  refine takeLw (i := 4) (by kernel_rfl) (by kernel_rfl) (by kernel_rfl) (fun c a d v w h => by cases d <;> exact h) (oi := ?_) ?_ ?_ _ (.tmp 13) ?_ (b13) ?_ 32 (#[v9]) (0, 0) _ (fun W hW => hW.2) Tryd.underlying32 rfl (by kernel_rfl) (by assumption) ?_
  rotate_left 1
  · (simp only [List.getElem?_toArray, List.getElem?_cons_succ, List.getElem?_cons_zero]; rfl)
  · rfl
  · rfl
  · rfl
  try simp only [Act.put, List.setIfInBounds_toArray, List.set_cons_zero, List.set_cons_succ]
  refine takeLw (i := 5) (by kernel_rfl) (by kernel_rfl) (by kernel_rfl) (fun c a d v w h => by cases d <;> exact h) (oi := ?_) ?_ ?_ _ (.tmp 10) ?_ (b10) ?_ 32 (#[v6]) (0, 0) _ (fun W hW => hW.1) Tryd.underlying32 rfl (by kernel_rfl) (by assumption) ?_
  rotate_left 1
  · (simp only [List.getElem?_toArray, List.getElem?_cons_succ, List.getElem?_cons_zero]; rfl)
  · rfl
  · rfl
  · rfl
  try simp only [Act.put, List.setIfInBounds_toArray, List.set_cons_zero, List.set_cons_succ]
  refine wpAnyH_ready (rs := [6]) (by kernel_rfl) (by simp) ?_
  refine AllReadyH.cons rfl (fun K hK => ?_) AllReadyH.nil
  go_simp
  refine (HD0.out _ (HK1.out)).mono ?_
  rintro e w_6 ⟨v_6, rfl, hs6, hk6⟩
  have HK6 := hid (show Same wa w_6 from (HK1.out).then hk6)
  have HX6 := hid hs6
  clear hs6
  clear hk6
  refine hK.out _ _ (HSA.out _ HK6.out) (fun hHeld2 => ?_)
  clear hK K
  try simp only [Act.put, List.setIfInBounds_toArray, List.set_cons_zero, List.set_cons_succ]
  refine wpAnyH_ready (rs := [7]) (by kernel_rfl) (by simp) ?_
  refine AllReadyH.cons rfl (fun K hK => ?_) AllReadyH.nil
  go_simp
  refine (HLZ.out _ _ HX6.out).mono ?_
  rintro e w_7 ⟨rfl, hk7⟩
  have HK7 := hid (show Same wa w_7 from (HK6.out).then hk7)
  clear hk7
  refine hK.out _ _ (HSA.out _ HK7.out) (fun hHeld3 => ?_)
  clear hK K
  try simp only [Act.put, List.setIfInBounds_toArray, List.set_cons_zero, List.set_cons_succ]
  refine takeO (i := 8) (v := ?_) (by kernel_rfl) (by kernel_rfl) (by kernel_rfl) (fun c a d v w h => by cases d <;> exact h) (oi := ?_) ?_ ?_ (by assumption) ?_
  rotate_left 2
  · (simp only [List.getElem?_toArray, List.getElem?_cons_succ, List.getElem?_cons_zero]; rfl)
  · (refine Or.inl ⟨by rfl, ?_⟩; intro w hSw; (try dsimp only at hSw); go_simp; try with_reducible rfl)
  try simp only [Act.put, List.setIfInBounds_toArray, List.set_cons_zero, List.set_cons_succ]
  refine takeO (i := 9) (v := ?_) (by kernel_rfl) (by kernel_rfl) (by kernel_rfl) (fun c a d v w h => by cases d <;> exact h) (oi := ?_) ?_ ?_ (by assumption) ?_
  rotate_left 2
  · (simp only [List.getElem?_toArray, List.getElem?_cons_succ, List.getElem?_cons_zero]; rfl)
  · (refine Or.inl ⟨by rfl, ?_⟩; intro w hSw; (try dsimp only at hSw); go_simp; try with_reducible rfl)
  try simp only [Act.put, List.setIfInBounds_toArray, List.set_cons_zero, List.set_cons_succ]
  refine takeO (i := 10) (v := ?_) (by kernel_rfl) (by kernel_rfl) (by kernel_rfl) (fun c a d v w h => by cases d <;> exact h) (oi := ?_) ?_ ?_ (by assumption) ?_
  rotate_left 2
  · (simp only [List.getElem?_toArray, List.getElem?_cons_succ, List.getElem?_cons_zero]; rfl)
  · (refine Or.inl ⟨by rfl, ?_⟩; intro w hSw; (try dsimp only at hSw); go_simp; try with_reducible rfl)
  try simp only [Act.put, List.setIfInBounds_toArray, List.set_cons_zero, List.set_cons_succ]
  refine takeO (i := 11) (v := ?_) (by kernel_rfl) (by kernel_rfl) (by kernel_rfl) (fun c a d v w h => by cases d <;> exact h) (oi := ?_) ?_ ?_ (by assumption) ?_
  rotate_left 2
  · (simp only [List.getElem?_toArray, List.getElem?_cons_succ, List.getElem?_cons_zero]; rfl)
  · (refine Or.inl ⟨by rfl, ?_⟩; intro w hSw; (try dsimp only at hSw); go_simp; try with_reducible rfl)
  try simp only [Act.put, List.setIfInBounds_toArray, List.set_cons_zero, List.set_cons_succ]
  refine takeLw (i := 12) (by kernel_rfl) (by kernel_rfl) (by kernel_rfl) (fun c a d v w h => by cases d <;> exact h) (oi := ?_) ?_ ?_ _ (.tmp 13) ?_ (b13) ?_ 32 (#[v9]) (0, 0) _ (fun W hW => hW.2) Tryd.underlying32 rfl (by kernel_rfl) (by assumption) ?_
  rotate_left 1
  · (simp only [List.getElem?_toArray, List.getElem?_cons_succ, List.getElem?_cons_zero]; rfl)
  · rfl
  · rfl
  · rfl
  try simp only [Act.put, List.setIfInBounds_toArray, List.set_cons_zero, List.set_cons_succ]
  refine takeLw (i := 14) (by kernel_rfl) (by kernel_rfl) (by kernel_rfl) (fun c a d v w h => by cases d <;> exact h) (oi := ?_) ?_ ?_ _ (.tmp 10) ?_ (b10) ?_ 32 (#[v6]) (0, 0) _ (fun W hW => hW.1) Tryd.underlying32 rfl (by kernel_rfl) (by assumption) ?_
  rotate_left 1
  · (simp only [List.getElem?_toArray, List.getElem?_cons_succ, List.getElem?_cons_zero]; rfl)
  · rfl
  · rfl
  · rfl
  try simp only [Act.put, List.setIfInBounds_toArray, List.set_cons_zero, List.set_cons_succ]
  refine wpAnyH_ready (rs := [13]) (by kernel_rfl) (by simp) ?_
  refine AllReadyH.cons rfl (fun K hK => ?_) AllReadyH.nil
  go_simp
  refine (HLE1.out _ (HK7.out)).mono ?_
  rintro e w_13 ⟨rfl, hk13⟩
  have HK13 := hid (show Same wa w_13 from (HK7.out).then hk13)
  clear hk13
  refine hK.out _ _ (HSA.out _ HK13.out) (fun hHeld4 => ?_)
  clear hK K
  try simp only [Act.put, List.setIfInBounds_toArray, List.set_cons_zero, List.set_cons_succ]
  refine wpAnyH_ready (rs := [15]) (by kernel_rfl) (by simp) ?_
  refine AllReadyH.cons rfl (fun K hK => ?_) AllReadyH.nil
  go_simp
  refine (HLE0.out _ (HK13.out)).mono ?_
  rintro e w_15 ⟨rfl, hk15⟩
  have HK15 := hid (show Same wa w_15 from (HK13.out).then hk15)
  clear hk15
  refine hK.out _ _ (HSA.out _ HK15.out) (fun hHeld5 => ?_)
  clear hK K
  try simp only [Act.put, List.setIfInBounds_toArray, List.set_cons_zero, List.set_cons_succ]
  refine takeO (i := 16) (v := ?_) (by kernel_rfl) (by kernel_rfl) (by kernel_rfl) (fun c a d v w h => by cases d <;> exact h) (oi := ?_) ?_ ?_ (by assumption) ?_
  rotate_left 2
  · (simp only [List.getElem?_toArray, List.getElem?_cons_succ, List.getElem?_cons_zero]; rfl)
  · (refine Or.inl ⟨by rfl, ?_⟩; intro w hSw; (try dsimp only at hSw); go_simp; try with_reducible rfl)
  try simp only [Act.put, List.setIfInBounds_toArray, List.set_cons_zero, List.set_cons_succ]
  refine takeO (i := 17) (v := ?_) (by kernel_rfl) (by kernel_rfl) (by kernel_rfl) (fun c a d v w h => by cases d <;> exact h) (oi := ?_) ?_ ?_ (by assumption) ?_
  rotate_left 2
  · (simp only [List.getElem?_toArray, List.getElem?_cons_succ, List.getElem?_cons_zero]; rfl)
  · (refine Or.inl ⟨by rfl, ?_⟩; intro w hSw; (try dsimp only at hSw); go_simp; try with_reducible rfl)
  try simp only [Act.put, List.setIfInBounds_toArray, List.set_cons_zero, List.set_cons_succ]
  refine takeO (i := 18) (v := ?_) (by kernel_rfl) (by kernel_rfl) (by kernel_rfl) (fun c a d v w h => by cases d <;> exact h) (oi := ?_) ?_ ?_ (by assumption) ?_
  rotate_left 2
  · (simp only [List.getElem?_toArray, List.getElem?_cons_succ, List.getElem?_cons_zero]; rfl)
  · (refine Or.inl ⟨by rfl, ?_⟩; intro w hSw; (try dsimp only at hSw); go_simp; try with_reducible rfl)
  try simp only [Act.put, List.setIfInBounds_toArray, List.set_cons_zero, List.set_cons_succ]
  refine takeO (i := 19) (v := ?_) (by kernel_rfl) (by kernel_rfl) (by kernel_rfl) (fun c a d v w h => by cases d <;> exact h) (oi := ?_) ?_ ?_ (by assumption) ?_
  rotate_left 2
  · (simp only [List.getElem?_toArray, List.getElem?_cons_succ, List.getElem?_cons_zero]; rfl)
  · (refine Or.inl ⟨by rfl, ?_⟩; intro w hSw; (try dsimp only at hSw); go_simp; try with_reducible rfl)
  try simp only [Act.put, List.setIfInBounds_toArray, List.set_cons_zero, List.set_cons_succ]
  refine takeLw (i := 20) (by kernel_rfl) (by kernel_rfl) (by kernel_rfl) (fun c a d v w h => by cases d <;> exact h) (oi := ?_) ?_ ?_ _ (.tmp 13) ?_ (b13) ?_ 32 (#[v9]) (0, 0) _ (fun W hW => hW.2) Tryd.underlying32 rfl (by kernel_rfl) (by assumption) ?_
  rotate_left 1
  · (simp only [List.getElem?_toArray, List.getElem?_cons_succ, List.getElem?_cons_zero]; rfl)
  · rfl
  · rfl
  · rfl
  try simp only [Act.put, List.setIfInBounds_toArray, List.set_cons_zero, List.set_cons_succ]
  refine takeO (i := 21) (v := ?_) (by kernel_rfl) (by kernel_rfl) (by kernel_rfl) (fun c a d v w h => by cases d <;> exact h) (oi := ?_) ?_ ?_ (by assumption) ?_
  rotate_left 2
  · (simp only [List.getElem?_toArray, List.getElem?_cons_succ, List.getElem?_cons_zero]; rfl)
  · (refine Or.inl ⟨by rfl, ?_⟩; intro w hSw; (try dsimp only at hSw); go_simp; try with_reducible rfl)
  try simp only [Act.put, List.setIfInBounds_toArray, List.set_cons_zero, List.set_cons_succ]
  refine wpAnyH_ready (rs := [22]) (by kernel_rfl) (by simp) ?_
  refine AllReadyH.cons rfl (fun K hK => ?_) AllReadyH.nil
  go_simp
  refine (HOF.out _ (HK15.out)).mono ?_
  rintro e w_22 ⟨v_22, rfl, hs22, hk22⟩
  have HK22 := hid (show Same wa w_22 from (HK15.out).then hk22)
  have HX22 := hid hs22
  clear hs22
  clear hk22
  refine hK.out _ _ (HSA.out _ HK22.out) (fun hHeld6 => ?_)
  clear hK K
  try simp only [Act.put, List.setIfInBounds_toArray, List.set_cons_zero, List.set_cons_succ]
  refine wpAnyH_ready (rs := [23]) (by kernel_rfl) (by simp) ?_
  refine AllReadyH.cons rfl (fun K hK => ?_) AllReadyH.nil
  go_simp
  refine (HDA.out _ _ (HK22.out) HX22.out).mono ?_
  rintro e w_23 ⟨v_23, rfl, hs23, hk23⟩
  have HK23 := hid (show Same wa w_23 from (HK22.out).then hk23)
  have HX23 := hid hs23
  clear hs23
  clear hk23
  refine hK.out _ _ (HSA.out _ HK23.out) (fun hHeld7 => ?_)
  clear hK K
  try simp only [Act.put, List.setIfInBounds_toArray, List.set_cons_zero, List.set_cons_succ]
  refine wpAnyH_ready (rs := [24]) (by kernel_rfl) (by simp) ?_
  refine AllReadyH.cons rfl (fun K hK => ?_) AllReadyH.nil
  go_simp
  refine (HLZ.out _ _ HX23.out).mono ?_
  rintro e w_24 ⟨rfl, hk24⟩
  have HK24 := hid (show Same wa w_24 from (HK23.out).then hk24)
  clear hk24
  refine hK.out _ _ (HSA.out _ HK24.out) (fun hHeld8 => ?_)
  clear hK K
  try simp only [Act.put, List.setIfInBounds_toArray, List.set_cons_zero, List.set_cons_succ]
  refine takeO (i := 25) (v := ?_) (by kernel_rfl) (by kernel_rfl) (by kernel_rfl) (fun c a d v w h => by cases d <;> exact h) (oi := ?_) ?_ ?_ (by assumption) ?_
  rotate_left 2
  · (simp only [List.getElem?_toArray, List.getElem?_cons_succ, List.getElem?_cons_zero]; rfl)
  · (refine Or.inl ⟨by rfl, ?_⟩; intro w hSw; (try dsimp only at hSw); go_simp; try with_reducible rfl)
  try simp only [Act.put, List.setIfInBounds_toArray, List.set_cons_zero, List.set_cons_succ]
  refine takeO (i := 26) (v := ?_) (by kernel_rfl) (by kernel_rfl) (by kernel_rfl) (fun c a d v w h => by cases d <;> exact h) (oi := ?_) ?_ ?_ (by assumption) ?_
  rotate_left 2
  · (simp only [List.getElem?_toArray, List.getElem?_cons_succ, List.getElem?_cons_zero]; rfl)
  · (refine Or.inl ⟨by rfl, ?_⟩; intro w hSw; (try dsimp only at hSw); go_simp; try with_reducible rfl)
  try simp only [Act.put, List.setIfInBounds_toArray, List.set_cons_zero, List.set_cons_succ]
  refine takeO (i := 27) (v := ?_) (by kernel_rfl) (by kernel_rfl) (by kernel_rfl) (fun c a d v w h => by cases d <;> exact h) (oi := ?_) ?_ ?_ (by assumption) ?_
  rotate_left 2
  · (simp only [List.getElem?_toArray, List.getElem?_cons_succ, List.getElem?_cons_zero]; rfl)
  · (refine Or.inl ⟨by rfl, ?_⟩; intro w hSw; (try dsimp only at hSw); go_simp; try with_reducible rfl)
  try simp only [Act.put, List.setIfInBounds_toArray, List.set_cons_zero, List.set_cons_succ]
  refine wpAnyH_done (by kernel_rfl) ?_ _
  go_wp2_with fail
  go_ret
  exact ⟨rfl, HK0.out.then (HKA2.out.then HK24.out)⟩
end Go.Proofs.YtafpcffhkbeloaaDoor

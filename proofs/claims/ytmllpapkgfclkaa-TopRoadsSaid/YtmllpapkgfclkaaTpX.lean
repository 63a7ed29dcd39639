import Derived.Test.YtmllpapkgfclkaaTpY
namespace Go.Proofs.Ytmllpapkgfclkaa
open Go.RowKit

/-! ## Append -/
def AppPost (w0 : World) (base t g m pb : Nat) (cs : List E3) (L : List (List E3)) (e : Ending) (w' : World) : Prop :=
  (∃ v, e = .returned v) ∧ ∃ chv cs' V' L', TT0 w0 w' base t g m pb chv cs' V' L' ∧ cs'.length ≤ cs.length + 1 ∧ ∀ b, (∀ r ∈ L, r.length ≤ b) → ∀ r ∈ L', r.length ≤ b + 1
theorem rows_set {L : List (List E3)} {l : List E3} {c : E3} {k : Nat} (hl : L[k]? = some l) (b : Nat) (h : ∀ r ∈ L, r.length ≤ b) : ∀ r ∈ L.set k (l ++ [c]), r.length ≤ b + 1 := by
  intro r hr
  rcases List.mem_or_eq_of_mem_set hr with h1 | h1
  · have := h r h1; omega
  · subst h1
    have := h l (List.mem_of_getElem? hl)
    simp; omega
theorem own_or {x : Option Addr} {n c k : Nat} {o : Option Nat} (h : x.map (·.block) = o ∨ x.map (·.block) = some k) : (Value.slice x n c).ownBlock = o ∨ ∃ g, (Value.slice x n c).ownBlock = some g ∧ k ≤ g := by
  rcases h with h | h
  · exact .inl (by cases x <;> simpa [Value.ownBlock] using h)
  · cases x with
    | none => simp at h
    | some a => exact .inr ⟨k, by simpa [Value.ownBlock] using h, Nat.le_refl _⟩
set_option maxRecDepth 100000 in
set_option maxHeartbeats 4000000 in
theorem append_any {w0 w : World} {base t g m pb : Nat} {chv : Value} {cs : List E3} {V : List Value} {L : List (List E3)} (h : TT0 w0 w base t g m pb chv cs V L) (_hm : m ≤ 16384) (hcs : cs.length ≤ 1000) (hr : ∀ r ∈ L, r.length ≤ 1000) (c : E3) :
    Calls Try.prog 8 #[.pointer (some ⟨t, 0, none⟩), .agg #[.int .i64 c.a, .int .i64 c.b, .int .i64 c.c]] w (AppPost w0 base t g m pb cs L) := by
  have hk1 := (Keep.refl (fun _ => False) w).alloc (.cells #[.int .i64 c.a, .int .i64 c.b, .int .i64 c.c] 33)
  have HZ := hid (Blk.made w 33 #[.int .i64 c.a, .int .i64 c.b, .int .i64 c.c])
  have HX1 := hid (h.more hk1)
  have HVA := hid (valid_any (h.more hk1) c)
  have htop := h.top
  have HRL := hid hr
  obtain ⟨A, cc, rfl⟩ := h.own.shape
  have HQp := hid (fun x hx => h.own.lt x hx)
  have HQV := hid (fun i v (hv : V[i]? = some v) x hx => (h.tbl.blocks hv x hx).2)
  clear h hk1 hr
  go_enter Try.func8, Try.ntmps8
  go_upto_region 1 with fail
  generalize (w.alloc (.cells #[.int .i64 c.a, .int .i64 c.b, .int .i64 c.c] 33)) = w1 at *
  obtain ⟨q, hq⟩ : ∃ q, q = w.heap.size := ⟨_, rfl⟩
  rw [← hq] at HZ htop HQp HQV ⊢
  clear hq
  have z0 : w1.cell? ⟨q, 0, none⟩ = some (.int .i64 c.a) := (HZ.out.at_ 0).trans rfl
  have z1 : w1.cell? ⟨q, 1, none⟩ = some (.int .i64 c.b) := (HZ.out.at_ 1).trans rfl
  have z2 : w1.cell? ⟨q, 2, none⟩ = some (.int .i64 c.c) := (HZ.out.at_ 2).trans rfl
  have hts : t < w1.heap.size := HX1.out.hdr.lt
  go_wp2_with (go_at_call 19; (with_reducible refine HVA.out.mono ?_); rintro e w2 ⟨⟨bv, rfl, hbv⟩, hk2⟩; have HX2 := hid (HX1.out.more hk2); have HZ2 := hid (HZ.out.keep hk2 (fun f => f)); have HBV := hid hbv; clear hk2 hbv; have c1 : w2.cell? ⟨t, 1, none⟩ = some (.slice A cs.length cc) := (HX2.out.hdr.at_ 1).trans rfl; cases bv)
  · go_ret
    exact ⟨⟨_, rfl⟩, _, _, _, _, HX2.out, by omega, fun b hb r hr => by have := hb r hr; omega⟩
  obtain ⟨hb0, hbm⟩ := HBV.out (by first | trivial | rfl)
  obtain ⟨d, hd⟩ : ∃ d : Nat, c.b = d := ⟨_, (Int.toNat_of_nonneg hb0).symm⟩
  rw [hd] at HZ2 hbm
  have HD := hid hd
  clear hb0 hd HBV
  have hi0 : (0 : Int) ≤ (d : Int) := Int.natCast_nonneg _
  obtain ⟨r, hr0⟩ := get_some (l := L) (k := d) (by rw [HX2.out.lenL]; omega)
  obtain ⟨PA, pc, hV, _, _⟩ := HX2.out.tbl.row hr0
  have HV := hid hV
  have HR := hid hr0
  have hrl := HRL.out r (List.mem_of_getElem? hr0)
  have HQr := hid (fun x (hx : (Value.slice PA r.length pc).ownBlock = some x) => HQV.out _ _ hV x hx)
  clear hV hr0 HQV HRL
  have hqt : ¬ q = t := fun e => by have := HX2.out.tb; omega
  have hqp : ¬ q = pb := fun e => by have := HX2.out.pbb; omega
  have HSB := hid (fun (W : World) (b : Nat) (hb : Blk W b 33 #[.int .i64 c.a, .int .i64 (d : Int), .int .i64 c.c]) => show ∀ j u, (e3cells [c])[j]? = some u → W.cell? ((⟨b, 0, none⟩ : Addr).add j) = some u from by
    have := src_blk hb
    rw [← HD.out] at this
    exact this)
  have HX3 := hid (fun n => HX2.out.more ((Keep.refl (fun _ => False) w2).drewN n))
  have HZ3 := hid (fun n => HZ2.out.keep ((Keep.refl (fun _ => False) w2).drewN n) (fun f => f))
  have y0 : w2.cell? ⟨q, 0, none⟩ = some (.int .i64 c.a) := (HZ2.out.at_ 0).trans rfl
  by_cases hn : cs.length = 0
  · have hd1 : decide (0 < cs.length) = false := decide_eq_false (by omega)
    have hd2 : decide ((0 : Int) < (cs.length : Int)) = false := decide_eq_false (by omega)
    go_quiet (fail)
    go_wp2_with fail
    clear hn hd1 hd2
    generalize hw6 : w2.drewN _ = w6
    have HX6 := hid (show TT0 w0 w6 base t g m pb (.slice A cs.length cc) cs V L from by rw [← hw6]; exact HX3.out _)
    have HZ6 := hid (show Blk w6 q 33 #[.int .i64 c.a, .int .i64 (d : Int), .int .i64 c.c] from by rw [← hw6]; exact HZ3.out _)
    clear HX3 HZ3 hw6
    refine wp_region_held_drew (S := fun W => W.cell? ⟨q, 0, none⟩ = some (.int .i64 c.a) ∧ W.cell? ⟨q, 1, none⟩ = some (.int .i64 (d : Int)) ∧ W.cell? ⟨q, 2, none⟩ = some (.int .i64 c.c)) (by kernel_rfl) ⟨(HZ6.out.at_ 0).trans rfl, (HZ6.out.at_ 1).trans rfl, (HZ6.out.at_ 2).trans rfl⟩ (fun hHeld => ?_)
    refine takeO (i := 0) (v := ?_) (by kernel_rfl) (by kernel_rfl) (by kernel_rfl) (fun c a d v w h => by cases d <;> exact h) (oi := ?_) ?_ ?_ (by assumption) ?_
    rotate_left 2
    · (simp only [List.getElem?_toArray, List.getElem?_cons_zero]; rfl)
    · (refine Or.inl ⟨by rfl, ?_⟩; intro w hSw; (try dsimp only at hSw); obtain ⟨hS0, hS1, hS2⟩ := hSw; go_simp; try with_reducible rfl)
    try simp only [Act.put, List.setIfInBounds_toArray, List.set_cons_zero, List.set_cons_succ]
    refine takeO (i := 1) (v := ?_) (by kernel_rfl) (by kernel_rfl) (by kernel_rfl) (fun c a d v w h => by cases d <;> exact h) (oi := ?_) ?_ ?_ (by assumption) ?_
    rotate_left 2
    · (simp only [List.getElem?_toArray, List.getElem?_cons_succ, List.getElem?_cons_zero]; rfl)
    · (refine Or.inl ⟨by rfl, ?_⟩; intro w hSw; (try dsimp only at hSw); obtain ⟨hS0, hS1, hS2⟩ := hSw; go_simp; try with_reducible rfl)
    try simp only [Act.put, List.setIfInBounds_toArray, List.set_cons_zero, List.set_cons_succ]
    refine takeO (i := 2) (v := ?_) (by kernel_rfl) (by kernel_rfl) (by kernel_rfl) (fun c a d v w h => by cases d <;> exact h) (oi := ?_) ?_ ?_ (by assumption) ?_
    rotate_left 2
    · (simp only [List.getElem?_toArray, List.getElem?_cons_succ, List.getElem?_cons_zero]; rfl)
    · (refine Or.inl ⟨by rfl, ?_⟩; intro w hSw; (try dsimp only at hSw); obtain ⟨hS0, hS1, hS2⟩ := hSw; go_simp; try with_reducible rfl)
    try simp only [Act.put, List.setIfInBounds_toArray, List.set_cons_zero, List.set_cons_succ]
    refine takeO (i := 3) (v := ?_) (by kernel_rfl) (by kernel_rfl) (by kernel_rfl) (fun c a d v w h => by cases d <;> exact h) (oi := ?_) ?_ ?_ (by assumption) ?_
    rotate_left 2
    · (simp only [List.getElem?_toArray, List.getElem?_cons_succ, List.getElem?_cons_zero]; rfl)
    · (refine Or.inl ⟨by rfl, ?_⟩; intro w hSw; (try dsimp only at hSw); obtain ⟨hS0, hS1, hS2⟩ := hSw; go_simp; try with_reducible rfl)
    try simp only [Act.put, List.setIfInBounds_toArray, List.set_cons_zero, List.set_cons_succ]
    refine takeO (i := 5) (v := ?_) (by kernel_rfl) (by kernel_rfl) (by kernel_rfl) (fun c a d v w h => by cases d <;> exact h) (oi := ?_) ?_ ?_ (by assumption) ?_
    rotate_left 2
    · (simp only [List.getElem?_toArray, List.getElem?_cons_succ, List.getElem?_cons_zero]; rfl)
    · (refine Or.inl ⟨by rfl, ?_⟩; intro w hSw; (try dsimp only at hSw); obtain ⟨hS0, hS1, hS2⟩ := hSw; go_simp; try with_reducible rfl)
    try simp only [Act.put, List.setIfInBounds_toArray, List.set_cons_zero, List.set_cons_succ]
    have HXdp := hid (HX6.out.more (Keep.refl (fun _ => False) _).drew)
    have HZdp := hid (HZ6.out.keep (Keep.refl (fun _ => False) _).drew (fun f => f))
    clear hHeld
    generalize w6.drew = wd at *
    apply one_restG (F := fun _ _ _ W => ∃ chv2, TT0 w0 W base t g m pb chv2 (cs ++ [c]) V L ∧ Blk W q 33 #[.int .i64 c.a, .int .i64 (d : Int), .int .i64 c.c])
    case main =>
      intro REST
      refine wpAnyH_ready (rs := [4, 6]) (by kernel_rfl) (by simp) ?_
      refine AllReadyH.cons rfl (fun K hK => ?_) (AllReadyH.cons rfl (fun K hK => ?_) AllReadyH.nil)
      · have e21 : wd.cell? ⟨t, 1, none⟩ = some (.slice A cs.length cc) := (HXdp.out.hdr.at_ 1).trans rfl
        go_simp
        clear e21
        refine hK.out _ _ ⟨(HZdp.out.at_ 0).trans rfl, (HZdp.out.at_ 1).trans rfl, (HZdp.out.at_ 2).trans rfl⟩ (fun hHeld21 => ?_)
        clear hK K
        try simp only [Act.put, List.setIfInBounds_toArray, List.set_cons_zero, List.set_cons_succ]
        refine wpAnyH_ready (rs := [6]) (by kernel_rfl) (by simp) ?_
        refine AllReadyH.cons rfl (fun K hK => ?_) AllReadyH.nil
        go_simp
        have hb22 := Blk.made wd 33 #[.int .i64 c.a, .int .i64 (d : Int), .int .i64 c.c]
        have hk22 : Same wd (wd.alloc (.cells #[.int .i64 c.a, .int .i64 (d : Int), .int .i64 c.c] 33)) := (Keep.refl _ _).alloc _
        have HX22 := hid (HXdp.out.more hk22)
        have HZ22 := hid (HZdp.out.keep hk22 (fun f => f))
        obtain ⟨g22, hg22⟩ : ∃ g, g = wd.heap.size := ⟨_, rfl⟩
        rw [← hg22] at hb22 ⊢
        clear hg22 hk22
        generalize (wd.alloc (.cells #[.int .i64 c.a, .int .i64 (d : Int), .int .i64 c.c] 33)) = q22 at *
        refine hK.out _ _ ⟨(HZ22.out.at_ 0).trans rfl, (HZ22.out.at_ 1).trans rfl, (HZ22.out.at_ 2).trans rfl⟩ (fun hHeld22 => ?_)
        clear hK K
        try simp only [Act.put, List.setIfInBounds_toArray, List.set_cons_zero, List.set_cons_succ]
        refine wpAnyH_ready (rs := [7]) (by kernel_rfl) (by simp) ?_
        refine AllReadyH.cons rfl (fun K hK => ?_) AllReadyH.nil
        refine ECh.step2 rfl (.tmp 35) (.tmp 37) rfl (.slice A cs.length cc) (some ⟨g22, 0, none⟩) 1 1 rfl rfl base cs.length (e3cells cs) (e3cells [c]) (cs.length + 1) (e3cells (cs ++ [c])) rfl (e3_app _ _).symm (HX22.out.own) rfl (fun _ => ⟨_, rfl, HSB.out _ _ hb22⟩) (e3_one _) (by omega) (by unfold maxLen; omega) (HX22.out.top) (by
          intro A7 c7 w7 ho7 hg7 hw7
          have HX7 := hid (HX22.out.push hg7 (by rw [List.length_append]; exact ho7) (own_or hw7))
          have hkq : Keep (fun i => (Value.slice A cs.length cc).ownBlock = some i) q22 w7 := (Keep.refl _ _).grown hg7 (fun x e _ => e)
          have hz7 := HZ22.out.keep hkq (fun e => by have := HQp.out _ e; omega)
          have hh7 := HX22.out.hdr.keep hkq (fun e => by have := HQp.out _ e; have h1 := HX22.out.own.block _ e; have h2 := HX22.out.tb; omega)
          have c4 : w7.cell? ⟨t, 1, none⟩ = some (.slice A cs.length cc) := (hh7.at_ 1).trans rfl
          have f4 := hh7.free 1
          clear ho7 hg7 hw7 hkq
          refine hK.out _ _ ⟨(hz7.at_ 0).trans rfl, (hz7.at_ 1).trans rfl, (hz7.at_ 2).trans rfl⟩ (fun hHeld23 => ?_)
          clear hK K
          try simp only [Act.put, List.setIfInBounds_toArray]
          refine takeO (i := 8) (v := ?_) (by kernel_rfl) (by kernel_rfl) (by kernel_rfl) (fun c a d v w h => by cases d <;> exact h) (oi := ?_) ?_ ?_ (by assumption) ?_
          rotate_left 2
          · (simp only [List.getElem?_toArray, List.getElem?_cons_succ, List.getElem?_cons_zero]; rfl)
          · (refine Or.inl ⟨by rfl, ?_⟩; intro w hSw; (try dsimp only at hSw); obtain ⟨hS0, hS1, hS2⟩ := hSw; go_simp; try with_reducible rfl)
          try simp only [Act.put]
          refine takeO (i := 9) (v := ?_) (by kernel_rfl) (by kernel_rfl) (by kernel_rfl) (fun c a d v w h => by cases d <;> exact h) (oi := ?_) ?_ ?_ (by assumption) ?_
          rotate_left 2
          · (simp only [List.getElem?_toArray, List.getElem?_cons_succ, List.getElem?_cons_zero]; rfl)
          · (refine Or.inl ⟨by rfl, ?_⟩; intro w hSw; (try dsimp only at hSw); obtain ⟨hS0, hS1, hS2⟩ := hSw; go_simp; try with_reducible rfl)
          try simp only [Act.put]
          refine wpAnyH_ready (rs := [10]) (by kernel_rfl) (by simp) ?_
          refine AllReadyH.cons rfl (fun K hK => ?_) AllReadyH.nil
          go_simp
          refine hK.out _ _ (let hy := hz7.keep ((Keep.refl (· = t) w7).put 1 _) (fun e => hqt e); ⟨(hy.at_ 0).trans rfl, (hy.at_ 1).trans rfl, (hy.at_ 2).trans rfl⟩) (fun hHeld23 => ?_)
          clear hK K
          try simp only [Act.put, List.setIfInBounds_toArray, List.set_cons_zero, List.set_cons_succ]
          refine wpAnyH_done (by kernel_rfl) ?_ _
          exact REST A7 c7 g22 _ ⟨_, HX7.out, hz7.keep ((Keep.refl (· = t) w7).put 1 _) (fun e => hqt e)⟩)
      · go_simp
        have hb24 := Blk.made wd 33 #[.int .i64 c.a, .int .i64 (d : Int), .int .i64 c.c]
        have hk24 : Same wd (wd.alloc (.cells #[.int .i64 c.a, .int .i64 (d : Int), .int .i64 c.c] 33)) := (Keep.refl _ _).alloc _
        have HX24 := hid (HXdp.out.more hk24)
        have HZ24 := hid (HZdp.out.keep hk24 (fun f => f))
        obtain ⟨g24, hg24⟩ : ∃ g, g = wd.heap.size := ⟨_, rfl⟩
        rw [← hg24] at hb24 ⊢
        clear hg24 hk24
        generalize (wd.alloc (.cells #[.int .i64 c.a, .int .i64 (d : Int), .int .i64 c.c] 33)) = q24 at *
        refine hK.out _ _ ⟨(HZ24.out.at_ 0).trans rfl, (HZ24.out.at_ 1).trans rfl, (HZ24.out.at_ 2).trans rfl⟩ (fun hHeld24 => ?_)
        clear hK K
        try simp only [Act.put, List.setIfInBounds_toArray, List.set_cons_zero, List.set_cons_succ]
        refine wpAnyH_ready (rs := [4]) (by kernel_rfl) (by simp) ?_
        refine AllReadyH.cons rfl (fun K hK => ?_) AllReadyH.nil
        have e25 : q24.cell? ⟨t, 1, none⟩ = some (.slice A cs.length cc) := (HX24.out.hdr.at_ 1).trans rfl
        go_simp
        clear e25
        refine hK.out _ _ ⟨(HZ24.out.at_ 0).trans rfl, (HZ24.out.at_ 1).trans rfl, (HZ24.out.at_ 2).trans rfl⟩ (fun hHeld25 => ?_)
        clear hK K
        try simp only [Act.put, List.setIfInBounds_toArray, List.set_cons_zero, List.set_cons_succ]
        refine wpAnyH_ready (rs := [7]) (by kernel_rfl) (by simp) ?_
        refine AllReadyH.cons rfl (fun K hK => ?_) AllReadyH.nil
        refine ECh.step2 rfl (.tmp 35) (.tmp 37) rfl (.slice A cs.length cc) (some ⟨g24, 0, none⟩) 1 1 rfl rfl base cs.length (e3cells cs) (e3cells [c]) (cs.length + 1) (e3cells (cs ++ [c])) rfl (e3_app _ _).symm (HX24.out.own) rfl (fun _ => ⟨_, rfl, HSB.out _ _ hb24⟩) (e3_one _) (by omega) (by unfold maxLen; omega) (HX24.out.top) (by
          intro A7 c7 w7 ho7 hg7 hw7
          have HX7 := hid (HX24.out.push hg7 (by rw [List.length_append]; exact ho7) (own_or hw7))
          have hkq : Keep (fun i => (Value.slice A cs.length cc).ownBlock = some i) q24 w7 := (Keep.refl _ _).grown hg7 (fun x e _ => e)
          have hz7 := HZ24.out.keep hkq (fun e => by have := HQp.out _ e; omega)
          have hh7 := HX24.out.hdr.keep hkq (fun e => by have := HQp.out _ e; have h1 := HX24.out.own.block _ e; have h2 := HX24.out.tb; omega)
          have c4 : w7.cell? ⟨t, 1, none⟩ = some (.slice A cs.length cc) := (hh7.at_ 1).trans rfl
          have f4 := hh7.free 1
          clear ho7 hg7 hw7 hkq
          refine hK.out _ _ ⟨(hz7.at_ 0).trans rfl, (hz7.at_ 1).trans rfl, (hz7.at_ 2).trans rfl⟩ (fun hHeld26 => ?_)
          clear hK K
          try simp only [Act.put, List.setIfInBounds_toArray]
          refine takeO (i := 8) (v := ?_) (by kernel_rfl) (by kernel_rfl) (by kernel_rfl) (fun c a d v w h => by cases d <;> exact h) (oi := ?_) ?_ ?_ (by assumption) ?_
          rotate_left 2
          · (simp only [List.getElem?_toArray, List.getElem?_cons_succ, List.getElem?_cons_zero]; rfl)
          · (refine Or.inl ⟨by rfl, ?_⟩; intro w hSw; (try dsimp only at hSw); obtain ⟨hS0, hS1, hS2⟩ := hSw; go_simp; try with_reducible rfl)
          try simp only [Act.put]
          refine takeO (i := 9) (v := ?_) (by kernel_rfl) (by kernel_rfl) (by kernel_rfl) (fun c a d v w h => by cases d <;> exact h) (oi := ?_) ?_ ?_ (by assumption) ?_
          rotate_left 2
          · (simp only [List.getElem?_toArray, List.getElem?_cons_succ, List.getElem?_cons_zero]; rfl)
          · (refine Or.inl ⟨by rfl, ?_⟩; intro w hSw; (try dsimp only at hSw); obtain ⟨hS0, hS1, hS2⟩ := hSw; go_simp; try with_reducible rfl)
          try simp only [Act.put]
          refine wpAnyH_ready (rs := [10]) (by kernel_rfl) (by simp) ?_
          refine AllReadyH.cons rfl (fun K hK => ?_) AllReadyH.nil
          go_simp
          refine hK.out _ _ (let hy := hz7.keep ((Keep.refl (· = t) w7).put 1 _) (fun e => hqt e); ⟨(hy.at_ 0).trans rfl, (hy.at_ 1).trans rfl, (hy.at_ 2).trans rfl⟩) (fun hHeld26 => ?_)
          clear hK K
          try simp only [Act.put, List.setIfInBounds_toArray, List.set_cons_zero, List.set_cons_succ]
          refine wpAnyH_done (by kernel_rfl) ?_ _
          exact REST A7 c7 g24 _ ⟨_, HX7.out, hz7.keep ((Keep.refl (· = t) w7).put 1 _) (fun e => hqt e)⟩)
    case rest =>
      intro A7 c7 g7 v1 hF
      obtain ⟨chv2, hx, hz⟩ := hF
      have HX5 := hid hx
      have HZ5 := hid hz
      clear hx hz HX6 HZ6 HXdp HZdp
      go_upto_region 7 with fail
      refine wp_region_held_drew (S := fun W => W.cell? ⟨t, 2, none⟩ = some (.slice (some ⟨pb, 0, none⟩) m m) ∧ W.cell? ⟨q, 0, none⟩ = some (.int .i64 c.a) ∧ W.cell? ⟨q, 1, none⟩ = some (.int .i64 (d : Int)) ∧ W.cell? ⟨q, 2, none⟩ = some (.int .i64 c.c)) (by kernel_rfl) ⟨(HX5.out.hdr.at_ 2).trans rfl, (HZ5.out.at_ 0).trans rfl, (HZ5.out.at_ 1).trans rfl, (HZ5.out.at_ 2).trans rfl⟩ (fun hHeld => ?_)
      refine takeO (i := 0) (v := ?_) (by kernel_rfl) (by kernel_rfl) (by kernel_rfl) (fun c a d v w h => by cases d <;> exact h) (oi := ?_) ?_ ?_ (by assumption) ?_
      rotate_left 2
      · (simp only [List.getElem?_toArray, List.getElem?_cons_zero]; rfl)
      · (refine Or.inl ⟨by rfl, ?_⟩; intro w hSw; (try dsimp only at hSw); obtain ⟨hS0, hS1, hS2, hS3⟩ := hSw; go_simp; try with_reducible rfl)
      try simp only [Act.put, List.setIfInBounds_toArray, List.set_cons_zero, List.set_cons_succ]
      refine takeO (i := 1) (v := ?_) (by kernel_rfl) (by kernel_rfl) (by kernel_rfl) (fun c a d v w h => by cases d <;> exact h) (oi := ?_) ?_ ?_ (by assumption) ?_
      rotate_left 2
      · (simp only [List.getElem?_toArray, List.getElem?_cons_succ, List.getElem?_cons_zero]; rfl)
      · (refine Or.inl ⟨by rfl, ?_⟩; intro w hSw; (try dsimp only at hSw); obtain ⟨hS0, hS1, hS2, hS3⟩ := hSw; go_simp; try with_reducible rfl)
      try simp only [Act.put, List.setIfInBounds_toArray, List.set_cons_zero, List.set_cons_succ]
      refine takeO (i := 2) (v := ?_) (by kernel_rfl) (by kernel_rfl) (by kernel_rfl) (fun c a d v w h => by cases d <;> exact h) (oi := ?_) ?_ ?_ (by assumption) ?_
      rotate_left 2
      · (simp only [List.getElem?_toArray, List.getElem?_cons_succ, List.getElem?_cons_zero]; rfl)
      · (refine Or.inl ⟨by rfl, ?_⟩; intro w hSw; (try dsimp only at hSw); obtain ⟨hS0, hS1, hS2, hS3⟩ := hSw; go_simp; try with_reducible rfl)
      try simp only [Act.put, List.setIfInBounds_toArray, List.set_cons_zero, List.set_cons_succ]
      refine takeO (i := 3) (v := ?_) (by kernel_rfl) (by kernel_rfl) (by kernel_rfl) (fun c a d v w h => by cases d <;> exact h) (oi := ?_) ?_ ?_ (by assumption) ?_
      rotate_left 2
      · (simp only [List.getElem?_toArray, List.getElem?_cons_succ, List.getElem?_cons_zero]; rfl)
      · (refine Or.inl ⟨by rfl, ?_⟩; intro w hSw; (try dsimp only at hSw); obtain ⟨hS0, hS1, hS2, hS3⟩ := hSw; go_simp; try with_reducible rfl)
      try simp only [Act.put, List.setIfInBounds_toArray, List.set_cons_zero, List.set_cons_succ]
      refine takeO (i := 4) (v := ?_) (by kernel_rfl) (by kernel_rfl) (by kernel_rfl) (fun c a d v w h => by cases d <;> exact h) (oi := ?_) ?_ ?_ (by assumption) ?_
      rotate_left 2
      · (simp only [List.getElem?_toArray, List.getElem?_cons_succ, List.getElem?_cons_zero]; rfl)
      · (refine Or.inl ⟨by rfl, ?_⟩; intro w hSw; (try dsimp only at hSw); obtain ⟨hS0, hS1, hS2, hS3⟩ := hSw; go_simp; try with_reducible rfl)
      try simp only [Act.put, List.setIfInBounds_toArray, List.set_cons_zero, List.set_cons_succ]
      refine takeO (i := 5) (v := ?_) (by kernel_rfl) (by kernel_rfl) (by kernel_rfl) (fun c a d v w h => by cases d <;> exact h) (oi := ?_) ?_ ?_ (by assumption) ?_
      rotate_left 2
      · (simp only [List.getElem?_toArray, List.getElem?_cons_succ, List.getElem?_cons_zero]; rfl)
      · (refine Or.inl ⟨by rfl, ?_⟩; intro w hSw; (try dsimp only at hSw); obtain ⟨hS0, hS1, hS2, hS3⟩ := hSw; go_simp; try with_reducible rfl)
      try simp only [Act.put, List.setIfInBounds_toArray, List.set_cons_zero, List.set_cons_succ]
      refine takeO (i := 6) (v := ?_) (by kernel_rfl) (by kernel_rfl) (by kernel_rfl) (fun c a d v w h => by cases d <;> exact h) (oi := ?_) ?_ ?_ (by assumption) ?_
      rotate_left 2
      · (simp only [List.getElem?_toArray, List.getElem?_cons_succ, List.getElem?_cons_zero]; rfl)
      · (refine Or.inl ⟨by rfl, ?_⟩; intro w hSw; (try dsimp only at hSw); obtain ⟨hS0, hS1, hS2, hS3⟩ := hSw; go_simp; try with_reducible rfl)
      try simp only [Act.put, List.setIfInBounds_toArray, List.set_cons_zero, List.set_cons_succ]
      refine takeO (i := 7) (v := ?_) (by kernel_rfl) (by kernel_rfl) (by kernel_rfl) (fun c a d v w h => by cases d <;> exact h) (oi := ?_) ?_ ?_ (by assumption) ?_
      rotate_left 2
      · (simp only [List.getElem?_toArray, List.getElem?_cons_succ, List.getElem?_cons_zero]; rfl)
      · (refine Or.inl ⟨by rfl, ?_⟩; intro w hSw; (try dsimp only at hSw); obtain ⟨hS0, hS1, hS2, hS3⟩ := hSw; go_simp; try with_reducible rfl)
      try simp only [Act.put, List.setIfInBounds_toArray, List.set_cons_zero, List.set_cons_succ]
      refine takeO (i := 8) (v := ?_) (by kernel_rfl) (by kernel_rfl) (by kernel_rfl) (fun c a d v w h => by cases d <;> exact h) (oi := ?_) ?_ ?_ (by assumption) ?_
      rotate_left 2
      · (simp only [List.getElem?_toArray, List.getElem?_cons_succ, List.getElem?_cons_zero]; rfl)
      · (refine Or.inl ⟨by rfl, ?_⟩; intro w hSw; (try dsimp only at hSw); obtain ⟨hS0, hS1, hS2, hS3⟩ := hSw; go_simp; try with_reducible rfl)
      try simp only [Act.put, List.setIfInBounds_toArray, List.set_cons_zero, List.set_cons_succ]
      refine takeO (i := 9) (v := ?_) (by kernel_rfl) (by kernel_rfl) (by kernel_rfl) (fun c a d v w h => by cases d <;> exact h) (oi := ?_) ?_ ?_ (by assumption) ?_
      rotate_left 2
      · (simp only [List.getElem?_toArray, List.getElem?_cons_succ, List.getElem?_cons_zero]; rfl)
      · (refine Or.inl ⟨by rfl, ?_⟩; intro w hSw; (try dsimp only at hSw); obtain ⟨hS0, hS1, hS2, hS3⟩ := hSw; go_simp; try with_reducible rfl)
      try simp only [Act.put, List.setIfInBounds_toArray, List.set_cons_zero, List.set_cons_succ]
      refine takeO (i := 10) (v := ?_) (by kernel_rfl) (by kernel_rfl) (by kernel_rfl) (fun c a d v w h => by cases d <;> exact h) (oi := ?_) ?_ ?_ (by assumption) ?_
      rotate_left 2
      · (simp only [List.getElem?_toArray, List.getElem?_cons_succ, List.getElem?_cons_zero]; rfl)
      · (refine Or.inl ⟨by rfl, ?_⟩; intro w hSw; (try dsimp only at hSw); obtain ⟨hS0, hS1, hS2, hS3⟩ := hSw; go_simp; try with_reducible rfl)
      try simp only [Act.put, List.setIfInBounds_toArray, List.set_cons_zero, List.set_cons_succ]
      refine takeO (i := 11) (v := ?_) (by kernel_rfl) (by kernel_rfl) (by kernel_rfl) (fun c a d v w h => by cases d <;> exact h) (oi := ?_) ?_ ?_ (by assumption) ?_
      rotate_left 2
      · (simp only [List.getElem?_toArray, List.getElem?_cons_succ, List.getElem?_cons_zero]; rfl)
      · (refine Or.inl ⟨by rfl, ?_⟩; intro w hSw; (try dsimp only at hSw); obtain ⟨hS0, hS1, hS2, hS3⟩ := hSw; go_simp; try with_reducible rfl)
      try simp only [Act.put, List.setIfInBounds_toArray, List.set_cons_zero, List.set_cons_succ]
      refine takeO (i := 12) (v := ?_) (by kernel_rfl) (by kernel_rfl) (by kernel_rfl) (fun c a d v w h => by cases d <;> exact h) (oi := ?_) ?_ ?_ (by assumption) ?_
      rotate_left 2
      · (simp only [List.getElem?_toArray, List.getElem?_cons_succ, List.getElem?_cons_zero]; rfl)
      · (refine Or.inl ⟨by rfl, ?_⟩; intro w hSw; (try dsimp only at hSw); obtain ⟨hS0, hS1, hS2, hS3⟩ := hSw; go_simp; try with_reducible rfl)
      try simp only [Act.put, List.setIfInBounds_toArray, List.set_cons_zero, List.set_cons_succ]
      refine takeO (i := 14) (v := ?_) (by kernel_rfl) (by kernel_rfl) (by kernel_rfl) (fun c a d v w h => by cases d <;> exact h) (oi := ?_) ?_ ?_ (by assumption) ?_
      rotate_left 2
      · (simp only [List.getElem?_toArray, List.getElem?_cons_succ, List.getElem?_cons_zero]; rfl)
      · (refine Or.inl ⟨by rfl, ?_⟩; intro w hSw; (try dsimp only at hSw); obtain ⟨hS0, hS1, hS2, hS3⟩ := hSw; go_simp; try with_reducible rfl)
      try simp only [Act.put, List.setIfInBounds_toArray, List.set_cons_zero, List.set_cons_succ]
      have HXdr := hid (HX5.out.more (Keep.refl (fun _ => False) _).drew)
      have HZdr := hid (HZ5.out.keep (Keep.refl (fun _ => False) _).drew (fun f => f))
      clear hHeld
      generalize v1.drew = wd at *
      apply one_restG (F := fun _ _ _ W => ∃ V2, TT0 w0 W base t g m pb chv2 (cs ++ [c]) V2 (L.set d (r ++ [c])))
      case main =>
        intro REST
        refine wpAnyH_ready (rs := [13, 15]) (by kernel_rfl) (by simp) ?_
        refine AllReadyH.cons rfl (fun K hK => ?_) (AllReadyH.cons rfl (fun K hK => ?_) AllReadyH.nil)
        · have e27 : wd.cell? ⟨pb, d, none⟩ = some (.slice PA r.length pc) := (HXdr.out.tbl.blk.at_ _).trans (by simpa using HV.out)
          go_simp
          clear e27
          refine hK.out _ _ ⟨(HXdr.out.hdr.at_ 2).trans rfl, (HZdr.out.at_ 0).trans rfl, (HZdr.out.at_ 1).trans rfl, (HZdr.out.at_ 2).trans rfl⟩ (fun hHeld27 => ?_)
          clear hK K
          try simp only [Act.put, List.setIfInBounds_toArray, List.set_cons_zero, List.set_cons_succ]
          refine wpAnyH_ready (rs := [15]) (by kernel_rfl) (by simp) ?_
          refine AllReadyH.cons rfl (fun K hK => ?_) AllReadyH.nil
          go_simp
          have hb28 := Blk.made wd 33 #[.int .i64 c.a, .int .i64 (d : Int), .int .i64 c.c]
          have hk28 : Same wd (wd.alloc (.cells #[.int .i64 c.a, .int .i64 (d : Int), .int .i64 c.c] 33)) := (Keep.refl _ _).alloc _
          have HX28 := hid (HXdr.out.more hk28)
          have HZ28 := hid (HZdr.out.keep hk28 (fun f => f))
          obtain ⟨g28, hg28⟩ : ∃ g, g = wd.heap.size := ⟨_, rfl⟩
          rw [← hg28] at hb28 ⊢
          clear hg28 hk28
          generalize (wd.alloc (.cells #[.int .i64 c.a, .int .i64 (d : Int), .int .i64 c.c] 33)) = q28 at *
          refine hK.out _ _ ⟨(HX28.out.hdr.at_ 2).trans rfl, (HZ28.out.at_ 0).trans rfl, (HZ28.out.at_ 1).trans rfl, (HZ28.out.at_ 2).trans rfl⟩ (fun hHeld28 => ?_)
          clear hK K
          try simp only [Act.put, List.setIfInBounds_toArray, List.set_cons_zero, List.set_cons_succ]
          refine wpAnyH_ready (rs := [16]) (by kernel_rfl) (by simp) ?_
          refine AllReadyH.cons rfl (fun K hK => ?_) AllReadyH.nil
          refine ECh.step2 rfl (.tmp 54) (.tmp 56) rfl (.slice PA r.length pc) (some ⟨g28, 0, none⟩) 1 1 rfl rfl base r.length (e3cells r) (e3cells [c]) (r.length + 1) (e3cells (r ++ [c])) rfl (e3_app _ _).symm (HX28.out.tbl.own d _ r HV.out HR.out) rfl (fun _ => ⟨_, rfl, HSB.out _ _ hb28⟩) (e3_one _) (by omega) (by unfold maxLen; omega) (HX28.out.top) (by
            intro A7 c7 w7 ho7 hg7 hw7
            have HX7 := hid (HX28.out.row HV.out HR.out hg7 (by rw [List.length_append]; exact ho7) (own_or hw7))
            have hkq : Keep (fun i => (Value.slice PA r.length pc).ownBlock = some i) q28 w7 := (Keep.refl _ _).grown hg7 (fun x e _ => e)
            have hz7 := HZ28.out.keep hkq (fun e => by have := HQr.out _ e; omega)
            have hh7 := HX28.out.hdr.keep hkq (fun e => by have h1 := (HX28.out.tbl.blocks HV.out _ e).1; have h2 := HX28.out.tb; omega)
            have hb7 := HX28.out.tbl.blk.keep hkq (HX28.out.tbl.off _ _ HV.out)
            have c4 : w7.cell? ⟨pb, d, none⟩ = some (.slice PA r.length pc) := (hb7.at_ _).trans (by simpa using HV.out)
            have f4 := hb7.free d
            clear hb7
            clear ho7 hg7 hw7 hkq
            refine hK.out _ _ ⟨(hh7.at_ 2).trans rfl, (hz7.at_ 0).trans rfl, (hz7.at_ 1).trans rfl, (hz7.at_ 2).trans rfl⟩ (fun hHeld29 => ?_)
            clear hK K
            try simp only [Act.put, List.setIfInBounds_toArray]
            refine takeO (i := 17) (v := ?_) (by kernel_rfl) (by kernel_rfl) (by kernel_rfl) (fun c a d v w h => by cases d <;> exact h) (oi := ?_) ?_ ?_ (by assumption) ?_
            rotate_left 2
            · (simp only [List.getElem?_toArray, List.getElem?_cons_succ, List.getElem?_cons_zero]; rfl)
            · (refine Or.inl ⟨by rfl, ?_⟩; intro w hSw; (try dsimp only at hSw); obtain ⟨hS0, hS1, hS2, hS3⟩ := hSw; go_simp; try with_reducible rfl)
            try simp only [Act.put]
            refine wpAnyH_ready (rs := [18]) (by kernel_rfl) (by simp) ?_
            refine AllReadyH.cons rfl (fun K hK => ?_) AllReadyH.nil
            go_simp
            refine hK.out _ _ (let hy := hz7.keep ((Keep.refl (· = pb) w7).put d _) (fun e => hqp e); ⟨(HX7.out.hdr.at_ 2).trans rfl, (hy.at_ 0).trans rfl, (hy.at_ 1).trans rfl, (hy.at_ 2).trans rfl⟩) (fun hHeld29 => ?_)
            clear hK K
            try simp only [Act.put, List.setIfInBounds_toArray, List.set_cons_zero, List.set_cons_succ]
            refine wpAnyH_done (by kernel_rfl) ?_ _
            exact REST A7 c7 g28 _ ⟨_, HX7.out⟩)
        · go_simp
          have hb30 := Blk.made wd 33 #[.int .i64 c.a, .int .i64 (d : Int), .int .i64 c.c]
          have hk30 : Same wd (wd.alloc (.cells #[.int .i64 c.a, .int .i64 (d : Int), .int .i64 c.c] 33)) := (Keep.refl _ _).alloc _
          have HX30 := hid (HXdr.out.more hk30)
          have HZ30 := hid (HZdr.out.keep hk30 (fun f => f))
          obtain ⟨g30, hg30⟩ : ∃ g, g = wd.heap.size := ⟨_, rfl⟩
          rw [← hg30] at hb30 ⊢
          clear hg30 hk30
          generalize (wd.alloc (.cells #[.int .i64 c.a, .int .i64 (d : Int), .int .i64 c.c] 33)) = q30 at *
          refine hK.out _ _ ⟨(HX30.out.hdr.at_ 2).trans rfl, (HZ30.out.at_ 0).trans rfl, (HZ30.out.at_ 1).trans rfl, (HZ30.out.at_ 2).trans rfl⟩ (fun hHeld30 => ?_)
          clear hK K
          try simp only [Act.put, List.setIfInBounds_toArray, List.set_cons_zero, List.set_cons_succ]
          refine wpAnyH_ready (rs := [13]) (by kernel_rfl) (by simp) ?_
          refine AllReadyH.cons rfl (fun K hK => ?_) AllReadyH.nil
          have e31 : q30.cell? ⟨pb, d, none⟩ = some (.slice PA r.length pc) := (HX30.out.tbl.blk.at_ _).trans (by simpa using HV.out)
          go_simp
          clear e31
          refine hK.out _ _ ⟨(HX30.out.hdr.at_ 2).trans rfl, (HZ30.out.at_ 0).trans rfl, (HZ30.out.at_ 1).trans rfl, (HZ30.out.at_ 2).trans rfl⟩ (fun hHeld31 => ?_)
          clear hK K
          try simp only [Act.put, List.setIfInBounds_toArray, List.set_cons_zero, List.set_cons_succ]
          refine wpAnyH_ready (rs := [16]) (by kernel_rfl) (by simp) ?_
          refine AllReadyH.cons rfl (fun K hK => ?_) AllReadyH.nil
          refine ECh.step2 rfl (.tmp 54) (.tmp 56) rfl (.slice PA r.length pc) (some ⟨g30, 0, none⟩) 1 1 rfl rfl base r.length (e3cells r) (e3cells [c]) (r.length + 1) (e3cells (r ++ [c])) rfl (e3_app _ _).symm (HX30.out.tbl.own d _ r HV.out HR.out) rfl (fun _ => ⟨_, rfl, HSB.out _ _ hb30⟩) (e3_one _) (by omega) (by unfold maxLen; omega) (HX30.out.top) (by
            intro A7 c7 w7 ho7 hg7 hw7
            have HX7 := hid (HX30.out.row HV.out HR.out hg7 (by rw [List.length_append]; exact ho7) (own_or hw7))
            have hkq : Keep (fun i => (Value.slice PA r.length pc).ownBlock = some i) q30 w7 := (Keep.refl _ _).grown hg7 (fun x e _ => e)
            have hz7 := HZ30.out.keep hkq (fun e => by have := HQr.out _ e; omega)
            have hh7 := HX30.out.hdr.keep hkq (fun e => by have h1 := (HX30.out.tbl.blocks HV.out _ e).1; have h2 := HX30.out.tb; omega)
            have hb7 := HX30.out.tbl.blk.keep hkq (HX30.out.tbl.off _ _ HV.out)
            have c4 : w7.cell? ⟨pb, d, none⟩ = some (.slice PA r.length pc) := (hb7.at_ _).trans (by simpa using HV.out)
            have f4 := hb7.free d
            clear hb7
            clear ho7 hg7 hw7 hkq
            refine hK.out _ _ ⟨(hh7.at_ 2).trans rfl, (hz7.at_ 0).trans rfl, (hz7.at_ 1).trans rfl, (hz7.at_ 2).trans rfl⟩ (fun hHeld32 => ?_)
            clear hK K
            try simp only [Act.put, List.setIfInBounds_toArray]
            refine takeO (i := 17) (v := ?_) (by kernel_rfl) (by kernel_rfl) (by kernel_rfl) (fun c a d v w h => by cases d <;> exact h) (oi := ?_) ?_ ?_ (by assumption) ?_
            rotate_left 2
            · (simp only [List.getElem?_toArray, List.getElem?_cons_succ, List.getElem?_cons_zero]; rfl)
            · (refine Or.inl ⟨by rfl, ?_⟩; intro w hSw; (try dsimp only at hSw); obtain ⟨hS0, hS1, hS2, hS3⟩ := hSw; go_simp; try with_reducible rfl)
            try simp only [Act.put]
            refine wpAnyH_ready (rs := [18]) (by kernel_rfl) (by simp) ?_
            refine AllReadyH.cons rfl (fun K hK => ?_) AllReadyH.nil
            go_simp
            refine hK.out _ _ (let hy := hz7.keep ((Keep.refl (· = pb) w7).put d _) (fun e => hqp e); ⟨(HX7.out.hdr.at_ 2).trans rfl, (hy.at_ 0).trans rfl, (hy.at_ 1).trans rfl, (hy.at_ 2).trans rfl⟩) (fun hHeld32 => ?_)
            clear hK K
            try simp only [Act.put, List.setIfInBounds_toArray, List.set_cons_zero, List.set_cons_succ]
            refine wpAnyH_done (by kernel_rfl) ?_ _
            exact REST A7 c7 g30 _ ⟨_, HX7.out⟩)
      case rest =>
        intro A8 c8 g8 v2 hF
        have HF := hid hF
        clear hF
        go_wp2_with fail
        go_ret
        obtain ⟨V2, hx⟩ := HF.out
        exact ⟨⟨_, rfl⟩, _, _, _, _, hx, by simp, rows_set HR.out⟩
  · have hd1 : decide (0 < cs.length) = true := decide_eq_true (by omega)
    have hd2 : decide ((0 : Int) < (cs.length : Int)) = true := decide_eq_true (by omega)
    obtain ⟨k, hk⟩ : ∃ k, k = cs.length - 1 := ⟨_, rfl⟩
    obtain ⟨e1, he1⟩ := get_some (l := cs) (k := k) (by omega)
    obtain ⟨b1, o1, rfl, hb1, x0, _, _⟩ := e3_at (HX2.out.own.slN.wide (Av' := fun _ => False) (fun _ _ f => f.elim)) he1
    have hk1 : (cs.length : Int) - 1 = (k : Int) := by omega
    have hk2 : (k : Int) < (cs.length : Int) := by omega
    have hk0 : (0 : Int) ≤ (k : Int) := Int.natCast_nonneg _
    clear hk he1
    generalize e1.a = ea at x0
    by_cases hlt : c.a < ea
    · have hd3 : decide (c.a < ea) = true := decide_eq_true hlt
      go_quiet (fail)
      go_wp2_with fail
      go_ret
      exact ⟨⟨_, rfl⟩, _, _, _, _, HX3.out _, by omega, fun b hb r hr => by have := hb r hr; omega⟩
    · have hd3 : decide (c.a < ea) = false := decide_eq_false hlt
      go_quiet (fail)
      go_wp2_with fail
      clear hlt hd1 hd2 hd3 hn hk1 hk2 x0
      generalize hw6 : w2.drewN _ = w6
      have HX6 := hid (show TT0 w0 w6 base t g m pb (.slice (some ⟨b1, o1, none⟩) cs.length cc) cs V L from by rw [← hw6]; exact HX3.out _)
      have HZ6 := hid (show Blk w6 q 33 #[.int .i64 c.a, .int .i64 (d : Int), .int .i64 c.c] from by rw [← hw6]; exact HZ3.out _)
      clear HX3 HZ3 hw6
      refine wp_region_held_drew (S := fun W => W.cell? ⟨q, 0, none⟩ = some (.int .i64 c.a) ∧ W.cell? ⟨q, 1, none⟩ = some (.int .i64 (d : Int)) ∧ W.cell? ⟨q, 2, none⟩ = some (.int .i64 c.c)) (by kernel_rfl) ⟨(HZ6.out.at_ 0).trans rfl, (HZ6.out.at_ 1).trans rfl, (HZ6.out.at_ 2).trans rfl⟩ (fun hHeld => ?_)
      refine takeO (i := 0) (v := ?_) (by kernel_rfl) (by kernel_rfl) (by kernel_rfl) (fun c a d v w h => by cases d <;> exact h) (oi := ?_) ?_ ?_ (by assumption) ?_
      rotate_left 2
      · (simp only [List.getElem?_toArray, List.getElem?_cons_zero]; rfl)
      · (refine Or.inl ⟨by rfl, ?_⟩; intro w hSw; (try dsimp only at hSw); obtain ⟨hS0, hS1, hS2⟩ := hSw; go_simp; try with_reducible rfl)
      try simp only [Act.put, List.setIfInBounds_toArray, List.set_cons_zero, List.set_cons_succ]
      refine takeO (i := 1) (v := ?_) (by kernel_rfl) (by kernel_rfl) (by kernel_rfl) (fun c a d v w h => by cases d <;> exact h) (oi := ?_) ?_ ?_ (by assumption) ?_
      rotate_left 2
      · (simp only [List.getElem?_toArray, List.getElem?_cons_succ, List.getElem?_cons_zero]; rfl)
      · (refine Or.inl ⟨by rfl, ?_⟩; intro w hSw; (try dsimp only at hSw); obtain ⟨hS0, hS1, hS2⟩ := hSw; go_simp; try with_reducible rfl)
      try simp only [Act.put, List.setIfInBounds_toArray, List.set_cons_zero, List.set_cons_succ]
      refine takeO (i := 2) (v := ?_) (by kernel_rfl) (by kernel_rfl) (by kernel_rfl) (fun c a d v w h => by cases d <;> exact h) (oi := ?_) ?_ ?_ (by assumption) ?_
      rotate_left 2
      · (simp only [List.getElem?_toArray, List.getElem?_cons_succ, List.getElem?_cons_zero]; rfl)
      · (refine Or.inl ⟨by rfl, ?_⟩; intro w hSw; (try dsimp only at hSw); obtain ⟨hS0, hS1, hS2⟩ := hSw; go_simp; try with_reducible rfl)
      try simp only [Act.put, List.setIfInBounds_toArray, List.set_cons_zero, List.set_cons_succ]
      refine takeO (i := 3) (v := ?_) (by kernel_rfl) (by kernel_rfl) (by kernel_rfl) (fun c a d v w h => by cases d <;> exact h) (oi := ?_) ?_ ?_ (by assumption) ?_
      rotate_left 2
      · (simp only [List.getElem?_toArray, List.getElem?_cons_succ, List.getElem?_cons_zero]; rfl)
      · (refine Or.inl ⟨by rfl, ?_⟩; intro w hSw; (try dsimp only at hSw); obtain ⟨hS0, hS1, hS2⟩ := hSw; go_simp; try with_reducible rfl)
      try simp only [Act.put, List.setIfInBounds_toArray, List.set_cons_zero, List.set_cons_succ]
      refine takeO (i := 5) (v := ?_) (by kernel_rfl) (by kernel_rfl) (by kernel_rfl) (fun c a d v w h => by cases d <;> exact h) (oi := ?_) ?_ ?_ (by assumption) ?_
      rotate_left 2
      · (simp only [List.getElem?_toArray, List.getElem?_cons_succ, List.getElem?_cons_zero]; rfl)
      · (refine Or.inl ⟨by rfl, ?_⟩; intro w hSw; (try dsimp only at hSw); obtain ⟨hS0, hS1, hS2⟩ := hSw; go_simp; try with_reducible rfl)
      try simp only [Act.put, List.setIfInBounds_toArray, List.set_cons_zero, List.set_cons_succ]
      have HXdp := hid (HX6.out.more (Keep.refl (fun _ => False) _).drew)
      have HZdp := hid (HZ6.out.keep (Keep.refl (fun _ => False) _).drew (fun f => f))
      clear hHeld
      generalize w6.drew = wd at *
      apply one_restG (F := fun _ _ _ W => ∃ chv2, TT0 w0 W base t g m pb chv2 (cs ++ [c]) V L ∧ Blk W q 33 #[.int .i64 c.a, .int .i64 (d : Int), .int .i64 c.c])
      case main =>
        intro REST
        refine wpAnyH_ready (rs := [4, 6]) (by kernel_rfl) (by simp) ?_
        refine AllReadyH.cons rfl (fun K hK => ?_) (AllReadyH.cons rfl (fun K hK => ?_) AllReadyH.nil)
        · have e33 : wd.cell? ⟨t, 1, none⟩ = some (.slice (some ⟨b1, o1, none⟩) cs.length cc) := (HXdp.out.hdr.at_ 1).trans rfl
          go_simp
          clear e33
          refine hK.out _ _ ⟨(HZdp.out.at_ 0).trans rfl, (HZdp.out.at_ 1).trans rfl, (HZdp.out.at_ 2).trans rfl⟩ (fun hHeld33 => ?_)
          clear hK K
          try simp only [Act.put, List.setIfInBounds_toArray, List.set_cons_zero, List.set_cons_succ]
          refine wpAnyH_ready (rs := [6]) (by kernel_rfl) (by simp) ?_
          refine AllReadyH.cons rfl (fun K hK => ?_) AllReadyH.nil
          go_simp
          have hb34 := Blk.made wd 33 #[.int .i64 c.a, .int .i64 (d : Int), .int .i64 c.c]
          have hk34 : Same wd (wd.alloc (.cells #[.int .i64 c.a, .int .i64 (d : Int), .int .i64 c.c] 33)) := (Keep.refl _ _).alloc _
          have HX34 := hid (HXdp.out.more hk34)
          have HZ34 := hid (HZdp.out.keep hk34 (fun f => f))
          obtain ⟨g34, hg34⟩ : ∃ g, g = wd.heap.size := ⟨_, rfl⟩
          rw [← hg34] at hb34 ⊢
          clear hg34 hk34
          generalize (wd.alloc (.cells #[.int .i64 c.a, .int .i64 (d : Int), .int .i64 c.c] 33)) = q34 at *
          refine hK.out _ _ ⟨(HZ34.out.at_ 0).trans rfl, (HZ34.out.at_ 1).trans rfl, (HZ34.out.at_ 2).trans rfl⟩ (fun hHeld34 => ?_)
          clear hK K
          try simp only [Act.put, List.setIfInBounds_toArray, List.set_cons_zero, List.set_cons_succ]
          refine wpAnyH_ready (rs := [7]) (by kernel_rfl) (by simp) ?_
          refine AllReadyH.cons rfl (fun K hK => ?_) AllReadyH.nil
          refine ECh.step2 rfl (.tmp 35) (.tmp 37) rfl (.slice (some ⟨b1, o1, none⟩) cs.length cc) (some ⟨g34, 0, none⟩) 1 1 rfl rfl base cs.length (e3cells cs) (e3cells [c]) (cs.length + 1) (e3cells (cs ++ [c])) rfl (e3_app _ _).symm (HX34.out.own) rfl (fun _ => ⟨_, rfl, HSB.out _ _ hb34⟩) (e3_one _) (by omega) (by unfold maxLen; omega) (HX34.out.top) (by
            intro A7 c7 w7 ho7 hg7 hw7
            have HX7 := hid (HX34.out.push hg7 (by rw [List.length_append]; exact ho7) (own_or hw7))
            have hkq : Keep (fun i => (Value.slice (some ⟨b1, o1, none⟩) cs.length cc).ownBlock = some i) q34 w7 := (Keep.refl _ _).grown hg7 (fun x e _ => e)
            have hz7 := HZ34.out.keep hkq (fun e => by have := HQp.out _ e; omega)
            have hh7 := HX34.out.hdr.keep hkq (fun e => by have := HQp.out _ e; have h1 := HX34.out.own.block _ e; have h2 := HX34.out.tb; omega)
            have c4 : w7.cell? ⟨t, 1, none⟩ = some (.slice (some ⟨b1, o1, none⟩) cs.length cc) := (hh7.at_ 1).trans rfl
            have f4 := hh7.free 1
            clear ho7 hg7 hw7 hkq
            refine hK.out _ _ ⟨(hz7.at_ 0).trans rfl, (hz7.at_ 1).trans rfl, (hz7.at_ 2).trans rfl⟩ (fun hHeld35 => ?_)
            clear hK K
            try simp only [Act.put, List.setIfInBounds_toArray]
            refine takeO (i := 8) (v := ?_) (by kernel_rfl) (by kernel_rfl) (by kernel_rfl) (fun c a d v w h => by cases d <;> exact h) (oi := ?_) ?_ ?_ (by assumption) ?_
            rotate_left 2
            · (simp only [List.getElem?_toArray, List.getElem?_cons_succ, List.getElem?_cons_zero]; rfl)
            · (refine Or.inl ⟨by rfl, ?_⟩; intro w hSw; (try dsimp only at hSw); obtain ⟨hS0, hS1, hS2⟩ := hSw; go_simp; try with_reducible rfl)
            try simp only [Act.put]
            refine takeO (i := 9) (v := ?_) (by kernel_rfl) (by kernel_rfl) (by kernel_rfl) (fun c a d v w h => by cases d <;> exact h) (oi := ?_) ?_ ?_ (by assumption) ?_
            rotate_left 2
            · (simp only [List.getElem?_toArray, List.getElem?_cons_succ, List.getElem?_cons_zero]; rfl)
            · (refine Or.inl ⟨by rfl, ?_⟩; intro w hSw; (try dsimp only at hSw); obtain ⟨hS0, hS1, hS2⟩ := hSw; go_simp; try with_reducible rfl)
            try simp only [Act.put]
            refine wpAnyH_ready (rs := [10]) (by kernel_rfl) (by simp) ?_
            refine AllReadyH.cons rfl (fun K hK => ?_) AllReadyH.nil
            go_simp
            refine hK.out _ _ (let hy := hz7.keep ((Keep.refl (· = t) w7).put 1 _) (fun e => hqt e); ⟨(hy.at_ 0).trans rfl, (hy.at_ 1).trans rfl, (hy.at_ 2).trans rfl⟩) (fun hHeld35 => ?_)
            clear hK K
            try simp only [Act.put, List.setIfInBounds_toArray, List.set_cons_zero, List.set_cons_succ]
            refine wpAnyH_done (by kernel_rfl) ?_ _
            exact REST A7 c7 g34 _ ⟨_, HX7.out, hz7.keep ((Keep.refl (· = t) w7).put 1 _) (fun e => hqt e)⟩)
        · go_simp
          have hb36 := Blk.made wd 33 #[.int .i64 c.a, .int .i64 (d : Int), .int .i64 c.c]
          have hk36 : Same wd (wd.alloc (.cells #[.int .i64 c.a, .int .i64 (d : Int), .int .i64 c.c] 33)) := (Keep.refl _ _).alloc _
          have HX36 := hid (HXdp.out.more hk36)
          have HZ36 := hid (HZdp.out.keep hk36 (fun f => f))
          obtain ⟨g36, hg36⟩ : ∃ g, g = wd.heap.size := ⟨_, rfl⟩
          rw [← hg36] at hb36 ⊢
          clear hg36 hk36
          generalize (wd.alloc (.cells #[.int .i64 c.a, .int .i64 (d : Int), .int .i64 c.c] 33)) = q36 at *
          refine hK.out _ _ ⟨(HZ36.out.at_ 0).trans rfl, (HZ36.out.at_ 1).trans rfl, (HZ36.out.at_ 2).trans rfl⟩ (fun hHeld36 => ?_)
          clear hK K
          try simp only [Act.put, List.setIfInBounds_toArray, List.set_cons_zero, List.set_cons_succ]
          refine wpAnyH_ready (rs := [4]) (by kernel_rfl) (by simp) ?_
          refine AllReadyH.cons rfl (fun K hK => ?_) AllReadyH.nil
          have e37 : q36.cell? ⟨t, 1, none⟩ = some (.slice (some ⟨b1, o1, none⟩) cs.length cc) := (HX36.out.hdr.at_ 1).trans rfl
          go_simp
          clear e37
          refine hK.out _ _ ⟨(HZ36.out.at_ 0).trans rfl, (HZ36.out.at_ 1).trans rfl, (HZ36.out.at_ 2).trans rfl⟩ (fun hHeld37 => ?_)
          clear hK K
          try simp only [Act.put, List.setIfInBounds_toArray, List.set_cons_zero, List.set_cons_succ]
          refine wpAnyH_ready (rs := [7]) (by kernel_rfl) (by simp) ?_
          refine AllReadyH.cons rfl (fun K hK => ?_) AllReadyH.nil
          refine ECh.step2 rfl (.tmp 35) (.tmp 37) rfl (.slice (some ⟨b1, o1, none⟩) cs.length cc) (some ⟨g36, 0, none⟩) 1 1 rfl rfl base cs.length (e3cells cs) (e3cells [c]) (cs.length + 1) (e3cells (cs ++ [c])) rfl (e3_app _ _).symm (HX36.out.own) rfl (fun _ => ⟨_, rfl, HSB.out _ _ hb36⟩) (e3_one _) (by omega) (by unfold maxLen; omega) (HX36.out.top) (by
            intro A7 c7 w7 ho7 hg7 hw7
            have HX7 := hid (HX36.out.push hg7 (by rw [List.length_append]; exact ho7) (own_or hw7))
            have hkq : Keep (fun i => (Value.slice (some ⟨b1, o1, none⟩) cs.length cc).ownBlock = some i) q36 w7 := (Keep.refl _ _).grown hg7 (fun x e _ => e)
            have hz7 := HZ36.out.keep hkq (fun e => by have := HQp.out _ e; omega)
            have hh7 := HX36.out.hdr.keep hkq (fun e => by have := HQp.out _ e; have h1 := HX36.out.own.block _ e; have h2 := HX36.out.tb; omega)
            have c4 : w7.cell? ⟨t, 1, none⟩ = some (.slice (some ⟨b1, o1, none⟩) cs.length cc) := (hh7.at_ 1).trans rfl
            have f4 := hh7.free 1
            clear ho7 hg7 hw7 hkq
            refine hK.out _ _ ⟨(hz7.at_ 0).trans rfl, (hz7.at_ 1).trans rfl, (hz7.at_ 2).trans rfl⟩ (fun hHeld38 => ?_)
            clear hK K
            try simp only [Act.put, List.setIfInBounds_toArray]
            refine takeO (i := 8) (v := ?_) (by kernel_rfl) (by kernel_rfl) (by kernel_rfl) (fun c a d v w h => by cases d <;> exact h) (oi := ?_) ?_ ?_ (by assumption) ?_
            rotate_left 2
            · (simp only [List.getElem?_toArray, List.getElem?_cons_succ, List.getElem?_cons_zero]; rfl)
            · (refine Or.inl ⟨by rfl, ?_⟩; intro w hSw; (try dsimp only at hSw); obtain ⟨hS0, hS1, hS2⟩ := hSw; go_simp; try with_reducible rfl)
            try simp only [Act.put]
            refine takeO (i := 9) (v := ?_) (by kernel_rfl) (by kernel_rfl) (by kernel_rfl) (fun c a d v w h => by cases d <;> exact h) (oi := ?_) ?_ ?_ (by assumption) ?_
            rotate_left 2
            · (simp only [List.getElem?_toArray, List.getElem?_cons_succ, List.getElem?_cons_zero]; rfl)
            · (refine Or.inl ⟨by rfl, ?_⟩; intro w hSw; (try dsimp only at hSw); obtain ⟨hS0, hS1, hS2⟩ := hSw; go_simp; try with_reducible rfl)
            try simp only [Act.put]
            refine wpAnyH_ready (rs := [10]) (by kernel_rfl) (by simp) ?_
            refine AllReadyH.cons rfl (fun K hK => ?_) AllReadyH.nil
            go_simp
            refine hK.out _ _ (let hy := hz7.keep ((Keep.refl (· = t) w7).put 1 _) (fun e => hqt e); ⟨(hy.at_ 0).trans rfl, (hy.at_ 1).trans rfl, (hy.at_ 2).trans rfl⟩) (fun hHeld38 => ?_)
            clear hK K
            try simp only [Act.put, List.setIfInBounds_toArray, List.set_cons_zero, List.set_cons_succ]
            refine wpAnyH_done (by kernel_rfl) ?_ _
            exact REST A7 c7 g36 _ ⟨_, HX7.out, hz7.keep ((Keep.refl (· = t) w7).put 1 _) (fun e => hqt e)⟩)
      case rest =>
        intro A7 c7 g7 v1 hF
        obtain ⟨chv2, hx, hz⟩ := hF
        have HX5 := hid hx
        have HZ5 := hid hz
        clear hx hz HX6 HZ6 HXdp HZdp
        go_upto_region 7 with fail
        refine wp_region_held_drew (S := fun W => W.cell? ⟨t, 2, none⟩ = some (.slice (some ⟨pb, 0, none⟩) m m) ∧ W.cell? ⟨q, 0, none⟩ = some (.int .i64 c.a) ∧ W.cell? ⟨q, 1, none⟩ = some (.int .i64 (d : Int)) ∧ W.cell? ⟨q, 2, none⟩ = some (.int .i64 c.c)) (by kernel_rfl) ⟨(HX5.out.hdr.at_ 2).trans rfl, (HZ5.out.at_ 0).trans rfl, (HZ5.out.at_ 1).trans rfl, (HZ5.out.at_ 2).trans rfl⟩ (fun hHeld => ?_)
        refine takeO (i := 0) (v := ?_) (by kernel_rfl) (by kernel_rfl) (by kernel_rfl) (fun c a d v w h => by cases d <;> exact h) (oi := ?_) ?_ ?_ (by assumption) ?_
        rotate_left 2
        · (simp only [List.getElem?_toArray, List.getElem?_cons_zero]; rfl)
        · (refine Or.inl ⟨by rfl, ?_⟩; intro w hSw; (try dsimp only at hSw); obtain ⟨hS0, hS1, hS2, hS3⟩ := hSw; go_simp; try with_reducible rfl)
        try simp only [Act.put, List.setIfInBounds_toArray, List.set_cons_zero, List.set_cons_succ]
        refine takeO (i := 1) (v := ?_) (by kernel_rfl) (by kernel_rfl) (by kernel_rfl) (fun c a d v w h => by cases d <;> exact h) (oi := ?_) ?_ ?_ (by assumption) ?_
        rotate_left 2
        · (simp only [List.getElem?_toArray, List.getElem?_cons_succ, List.getElem?_cons_zero]; rfl)
        · (refine Or.inl ⟨by rfl, ?_⟩; intro w hSw; (try dsimp only at hSw); obtain ⟨hS0, hS1, hS2, hS3⟩ := hSw; go_simp; try with_reducible rfl)
        try simp only [Act.put, List.setIfInBounds_toArray, List.set_cons_zero, List.set_cons_succ]
        refine takeO (i := 2) (v := ?_) (by kernel_rfl) (by kernel_rfl) (by kernel_rfl) (fun c a d v w h => by cases d <;> exact h) (oi := ?_) ?_ ?_ (by assumption) ?_
        rotate_left 2
        · (simp only [List.getElem?_toArray, List.getElem?_cons_succ, List.getElem?_cons_zero]; rfl)
        · (refine Or.inl ⟨by rfl, ?_⟩; intro w hSw; (try dsimp only at hSw); obtain ⟨hS0, hS1, hS2, hS3⟩ := hSw; go_simp; try with_reducible rfl)
        try simp only [Act.put, List.setIfInBounds_toArray, List.set_cons_zero, List.set_cons_succ]
        refine takeO (i := 3) (v := ?_) (by kernel_rfl) (by kernel_rfl) (by kernel_rfl) (fun c a d v w h => by cases d <;> exact h) (oi := ?_) ?_ ?_ (by assumption) ?_
        rotate_left 2
        · (simp only [List.getElem?_toArray, List.getElem?_cons_succ, List.getElem?_cons_zero]; rfl)
        · (refine Or.inl ⟨by rfl, ?_⟩; intro w hSw; (try dsimp only at hSw); obtain ⟨hS0, hS1, hS2, hS3⟩ := hSw; go_simp; try with_reducible rfl)
        try simp only [Act.put, List.setIfInBounds_toArray, List.set_cons_zero, List.set_cons_succ]
        refine takeO (i := 4) (v := ?_) (by kernel_rfl) (by kernel_rfl) (by kernel_rfl) (fun c a d v w h => by cases d <;> exact h) (oi := ?_) ?_ ?_ (by assumption) ?_
        rotate_left 2
        · (simp only [List.getElem?_toArray, List.getElem?_cons_succ, List.getElem?_cons_zero]; rfl)
        · (refine Or.inl ⟨by rfl, ?_⟩; intro w hSw; (try dsimp only at hSw); obtain ⟨hS0, hS1, hS2, hS3⟩ := hSw; go_simp; try with_reducible rfl)
        try simp only [Act.put, List.setIfInBounds_toArray, List.set_cons_zero, List.set_cons_succ]
        refine takeO (i := 5) (v := ?_) (by kernel_rfl) (by kernel_rfl) (by kernel_rfl) (fun c a d v w h => by cases d <;> exact h) (oi := ?_) ?_ ?_ (by assumption) ?_
        rotate_left 2
        · (simp only [List.getElem?_toArray, List.getElem?_cons_succ, List.getElem?_cons_zero]; rfl)
        · (refine Or.inl ⟨by rfl, ?_⟩; intro w hSw; (try dsimp only at hSw); obtain ⟨hS0, hS1, hS2, hS3⟩ := hSw; go_simp; try with_reducible rfl)
        try simp only [Act.put, List.setIfInBounds_toArray, List.set_cons_zero, List.set_cons_succ]
        refine takeO (i := 6) (v := ?_) (by kernel_rfl) (by kernel_rfl) (by kernel_rfl) (fun c a d v w h => by cases d <;> exact h) (oi := ?_) ?_ ?_ (by assumption) ?_
        rotate_left 2
        · (simp only [List.getElem?_toArray, List.getElem?_cons_succ, List.getElem?_cons_zero]; rfl)
        · (refine Or.inl ⟨by rfl, ?_⟩; intro w hSw; (try dsimp only at hSw); obtain ⟨hS0, hS1, hS2, hS3⟩ := hSw; go_simp; try with_reducible rfl)
        try simp only [Act.put, List.setIfInBounds_toArray, List.set_cons_zero, List.set_cons_succ]
        refine takeO (i := 7) (v := ?_) (by kernel_rfl) (by kernel_rfl) (by kernel_rfl) (fun c a d v w h => by cases d <;> exact h) (oi := ?_) ?_ ?_ (by assumption) ?_
        rotate_left 2
        · (simp only [List.getElem?_toArray, List.getElem?_cons_succ, List.getElem?_cons_zero]; rfl)
        · (refine Or.inl ⟨by rfl, ?_⟩; intro w hSw; (try dsimp only at hSw); obtain ⟨hS0, hS1, hS2, hS3⟩ := hSw; go_simp; try with_reducible rfl)
        try simp only [Act.put, List.setIfInBounds_toArray, List.set_cons_zero, List.set_cons_succ]
        refine takeO (i := 8) (v := ?_) (by kernel_rfl) (by kernel_rfl) (by kernel_rfl) (fun c a d v w h => by cases d <;> exact h) (oi := ?_) ?_ ?_ (by assumption) ?_
        rotate_left 2
        · (simp only [List.getElem?_toArray, List.getElem?_cons_succ, List.getElem?_cons_zero]; rfl)
        · (refine Or.inl ⟨by rfl, ?_⟩; intro w hSw; (try dsimp only at hSw); obtain ⟨hS0, hS1, hS2, hS3⟩ := hSw; go_simp; try with_reducible rfl)
        try simp only [Act.put, List.setIfInBounds_toArray, List.set_cons_zero, List.set_cons_succ]
        refine takeO (i := 9) (v := ?_) (by kernel_rfl) (by kernel_rfl) (by kernel_rfl) (fun c a d v w h => by cases d <;> exact h) (oi := ?_) ?_ ?_ (by assumption) ?_
        rotate_left 2
        · (simp only [List.getElem?_toArray, List.getElem?_cons_succ, List.getElem?_cons_zero]; rfl)
        · (refine Or.inl ⟨by rfl, ?_⟩; intro w hSw; (try dsimp only at hSw); obtain ⟨hS0, hS1, hS2, hS3⟩ := hSw; go_simp; try with_reducible rfl)
        try simp only [Act.put, List.setIfInBounds_toArray, List.set_cons_zero, List.set_cons_succ]
        refine takeO (i := 10) (v := ?_) (by kernel_rfl) (by kernel_rfl) (by kernel_rfl) (fun c a d v w h => by cases d <;> exact h) (oi := ?_) ?_ ?_ (by assumption) ?_
        rotate_left 2
        · (simp only [List.getElem?_toArray, List.getElem?_cons_succ, List.getElem?_cons_zero]; rfl)
        · (refine Or.inl ⟨by rfl, ?_⟩; intro w hSw; (try dsimp only at hSw); obtain ⟨hS0, hS1, hS2, hS3⟩ := hSw; go_simp; try with_reducible rfl)
        try simp only [Act.put, List.setIfInBounds_toArray, List.set_cons_zero, List.set_cons_succ]
        refine takeO (i := 11) (v := ?_) (by kernel_rfl) (by kernel_rfl) (by kernel_rfl) (fun c a d v w h => by cases d <;> exact h) (oi := ?_) ?_ ?_ (by assumption) ?_
        rotate_left 2
        · (simp only [List.getElem?_toArray, List.getElem?_cons_succ, List.getElem?_cons_zero]; rfl)
        · (refine Or.inl ⟨by rfl, ?_⟩; intro w hSw; (try dsimp only at hSw); obtain ⟨hS0, hS1, hS2, hS3⟩ := hSw; go_simp; try with_reducible rfl)
        try simp only [Act.put, List.setIfInBounds_toArray, List.set_cons_zero, List.set_cons_succ]
        refine takeO (i := 12) (v := ?_) (by kernel_rfl) (by kernel_rfl) (by kernel_rfl) (fun c a d v w h => by cases d <;> exact h) (oi := ?_) ?_ ?_ (by assumption) ?_
        rotate_left 2
        · (simp only [List.getElem?_toArray, List.getElem?_cons_succ, List.getElem?_cons_zero]; rfl)
        · (refine Or.inl ⟨by rfl, ?_⟩; intro w hSw; (try dsimp only at hSw); obtain ⟨hS0, hS1, hS2, hS3⟩ := hSw; go_simp; try with_reducible rfl)
        try simp only [Act.put, List.setIfInBounds_toArray, List.set_cons_zero, List.set_cons_succ]
        refine takeO (i := 14) (v := ?_) (by kernel_rfl) (by kernel_rfl) (by kernel_rfl) (fun c a d v w h => by cases d <;> exact h) (oi := ?_) ?_ ?_ (by assumption) ?_
        rotate_left 2
        · (simp only [List.getElem?_toArray, List.getElem?_cons_succ, List.getElem?_cons_zero]; rfl)
        · (refine Or.inl ⟨by rfl, ?_⟩; intro w hSw; (try dsimp only at hSw); obtain ⟨hS0, hS1, hS2, hS3⟩ := hSw; go_simp; try with_reducible rfl)
        try simp only [Act.put, List.setIfInBounds_toArray, List.set_cons_zero, List.set_cons_succ]
        have HXdr := hid (HX5.out.more (Keep.refl (fun _ => False) _).drew)
        have HZdr := hid (HZ5.out.keep (Keep.refl (fun _ => False) _).drew (fun f => f))
        clear hHeld
        generalize v1.drew = wd at *
        apply one_restG (F := fun _ _ _ W => ∃ V2, TT0 w0 W base t g m pb chv2 (cs ++ [c]) V2 (L.set d (r ++ [c])))
        case main =>
          intro REST
          refine wpAnyH_ready (rs := [13, 15]) (by kernel_rfl) (by simp) ?_
          refine AllReadyH.cons rfl (fun K hK => ?_) (AllReadyH.cons rfl (fun K hK => ?_) AllReadyH.nil)
          · have e39 : wd.cell? ⟨pb, d, none⟩ = some (.slice PA r.length pc) := (HXdr.out.tbl.blk.at_ _).trans (by simpa using HV.out)
            go_simp
            clear e39
            refine hK.out _ _ ⟨(HXdr.out.hdr.at_ 2).trans rfl, (HZdr.out.at_ 0).trans rfl, (HZdr.out.at_ 1).trans rfl, (HZdr.out.at_ 2).trans rfl⟩ (fun hHeld39 => ?_)
            clear hK K
            try simp only [Act.put, List.setIfInBounds_toArray, List.set_cons_zero, List.set_cons_succ]
            refine wpAnyH_ready (rs := [15]) (by kernel_rfl) (by simp) ?_
            refine AllReadyH.cons rfl (fun K hK => ?_) AllReadyH.nil
            go_simp
            have hb40 := Blk.made wd 33 #[.int .i64 c.a, .int .i64 (d : Int), .int .i64 c.c]
            have hk40 : Same wd (wd.alloc (.cells #[.int .i64 c.a, .int .i64 (d : Int), .int .i64 c.c] 33)) := (Keep.refl _ _).alloc _
            have HX40 := hid (HXdr.out.more hk40)
            have HZ40 := hid (HZdr.out.keep hk40 (fun f => f))
            obtain ⟨g40, hg40⟩ : ∃ g, g = wd.heap.size := ⟨_, rfl⟩
            rw [← hg40] at hb40 ⊢
            clear hg40 hk40
            generalize (wd.alloc (.cells #[.int .i64 c.a, .int .i64 (d : Int), .int .i64 c.c] 33)) = q40 at *
            refine hK.out _ _ ⟨(HX40.out.hdr.at_ 2).trans rfl, (HZ40.out.at_ 0).trans rfl, (HZ40.out.at_ 1).trans rfl, (HZ40.out.at_ 2).trans rfl⟩ (fun hHeld40 => ?_)
            clear hK K
            try simp only [Act.put, List.setIfInBounds_toArray, List.set_cons_zero, List.set_cons_succ]
            refine wpAnyH_ready (rs := [16]) (by kernel_rfl) (by simp) ?_
            refine AllReadyH.cons rfl (fun K hK => ?_) AllReadyH.nil
            refine ECh.step2 rfl (.tmp 54) (.tmp 56) rfl (.slice PA r.length pc) (some ⟨g40, 0, none⟩) 1 1 rfl rfl base r.length (e3cells r) (e3cells [c]) (r.length + 1) (e3cells (r ++ [c])) rfl (e3_app _ _).symm (HX40.out.tbl.own d _ r HV.out HR.out) rfl (fun _ => ⟨_, rfl, HSB.out _ _ hb40⟩) (e3_one _) (by omega) (by unfold maxLen; omega) (HX40.out.top) (by
              intro A7 c7 w7 ho7 hg7 hw7
              have HX7 := hid (HX40.out.row HV.out HR.out hg7 (by rw [List.length_append]; exact ho7) (own_or hw7))
              have hkq : Keep (fun i => (Value.slice PA r.length pc).ownBlock = some i) q40 w7 := (Keep.refl _ _).grown hg7 (fun x e _ => e)
              have hz7 := HZ40.out.keep hkq (fun e => by have := HQr.out _ e; omega)
              have hh7 := HX40.out.hdr.keep hkq (fun e => by have h1 := (HX40.out.tbl.blocks HV.out _ e).1; have h2 := HX40.out.tb; omega)
              have hb7 := HX40.out.tbl.blk.keep hkq (HX40.out.tbl.off _ _ HV.out)
              have c4 : w7.cell? ⟨pb, d, none⟩ = some (.slice PA r.length pc) := (hb7.at_ _).trans (by simpa using HV.out)
              have f4 := hb7.free d
              clear hb7
              clear ho7 hg7 hw7 hkq
              refine hK.out _ _ ⟨(hh7.at_ 2).trans rfl, (hz7.at_ 0).trans rfl, (hz7.at_ 1).trans rfl, (hz7.at_ 2).trans rfl⟩ (fun hHeld41 => ?_)
              clear hK K
              try simp only [Act.put, List.setIfInBounds_toArray]
              refine takeO (i := 17) (v := ?_) (by kernel_rfl) (by kernel_rfl) (by kernel_rfl) (fun c a d v w h => by cases d <;> exact h) (oi := ?_) ?_ ?_ (by assumption) ?_
              rotate_left 2
              · (simp only [List.getElem?_toArray, List.getElem?_cons_succ, List.getElem?_cons_zero]; rfl)
              · (refine Or.inl ⟨by rfl, ?_⟩; intro w hSw; (try dsimp only at hSw); obtain ⟨hS0, hS1, hS2, hS3⟩ := hSw; go_simp; try with_reducible rfl)
              try simp only [Act.put]
              refine wpAnyH_ready (rs := [18]) (by kernel_rfl) (by simp) ?_
              refine AllReadyH.cons rfl (fun K hK => ?_) AllReadyH.nil
              go_simp
              refine hK.out _ _ (let hy := hz7.keep ((Keep.refl (· = pb) w7).put d _) (fun e => hqp e); ⟨(HX7.out.hdr.at_ 2).trans rfl, (hy.at_ 0).trans rfl, (hy.at_ 1).trans rfl, (hy.at_ 2).trans rfl⟩) (fun hHeld41 => ?_)
              clear hK K
              try simp only [Act.put, List.setIfInBounds_toArray, List.set_cons_zero, List.set_cons_succ]
              refine wpAnyH_done (by kernel_rfl) ?_ _
              exact REST A7 c7 g40 _ ⟨_, HX7.out⟩)
          · go_simp
            have hb42 := Blk.made wd 33 #[.int .i64 c.a, .int .i64 (d : Int), .int .i64 c.c]
            have hk42 : Same wd (wd.alloc (.cells #[.int .i64 c.a, .int .i64 (d : Int), .int .i64 c.c] 33)) := (Keep.refl _ _).alloc _
            have HX42 := hid (HXdr.out.more hk42)
            have HZ42 := hid (HZdr.out.keep hk42 (fun f => f))
            obtain ⟨g42, hg42⟩ : ∃ g, g = wd.heap.size := ⟨_, rfl⟩
            rw [← hg42] at hb42 ⊢
            clear hg42 hk42
            generalize (wd.alloc (.cells #[.int .i64 c.a, .int .i64 (d : Int), .int .i64 c.c] 33)) = q42 at *
            refine hK.out _ _ ⟨(HX42.out.hdr.at_ 2).trans rfl, (HZ42.out.at_ 0).trans rfl, (HZ42.out.at_ 1).trans rfl, (HZ42.out.at_ 2).trans rfl⟩ (fun hHeld42 => ?_)
            clear hK K
            try simp only [Act.put, List.setIfInBounds_toArray, List.set_cons_zero, List.set_cons_succ]
            refine wpAnyH_ready (rs := [13]) (by kernel_rfl) (by simp) ?_
            refine AllReadyH.cons rfl (fun K hK => ?_) AllReadyH.nil
            have e43 : q42.cell? ⟨pb, d, none⟩ = some (.slice PA r.length pc) := (HX42.out.tbl.blk.at_ _).trans (by simpa using HV.out)
            go_simp
            clear e43
            refine hK.out _ _ ⟨(HX42.out.hdr.at_ 2).trans rfl, (HZ42.out.at_ 0).trans rfl, (HZ42.out.at_ 1).trans rfl, (HZ42.out.at_ 2).trans rfl⟩ (fun hHeld43 => ?_)
            clear hK K
            try simp only [Act.put, List.setIfInBounds_toArray, List.set_cons_zero, List.set_cons_succ]
            refine wpAnyH_ready (rs := [16]) (by kernel_rfl) (by simp) ?_
            refine AllReadyH.cons rfl (fun K hK => ?_) AllReadyH.nil
            refine ECh.step2 rfl (.tmp 54) (.tmp 56) rfl (.slice PA r.length pc) (some ⟨g42, 0, none⟩) 1 1 rfl rfl base r.length (e3cells r) (e3cells [c]) (r.length + 1) (e3cells (r ++ [c])) rfl (e3_app _ _).symm (HX42.out.tbl.own d _ r HV.out HR.out) rfl (fun _ => ⟨_, rfl, HSB.out _ _ hb42⟩) (e3_one _) (by omega) (by unfold maxLen; omega) (HX42.out.top) (by
              intro A7 c7 w7 ho7 hg7 hw7
              have HX7 := hid (HX42.out.row HV.out HR.out hg7 (by rw [List.length_append]; exact ho7) (own_or hw7))
              have hkq : Keep (fun i => (Value.slice PA r.length pc).ownBlock = some i) q42 w7 := (Keep.refl _ _).grown hg7 (fun x e _ => e)
              have hz7 := HZ42.out.keep hkq (fun e => by have := HQr.out _ e; omega)
              have hh7 := HX42.out.hdr.keep hkq (fun e => by have h1 := (HX42.out.tbl.blocks HV.out _ e).1; have h2 := HX42.out.tb; omega)
              have hb7 := HX42.out.tbl.blk.keep hkq (HX42.out.tbl.off _ _ HV.out)
              have c4 : w7.cell? ⟨pb, d, none⟩ = some (.slice PA r.length pc) := (hb7.at_ _).trans (by simpa using HV.out)
              have f4 := hb7.free d
              clear hb7
              clear ho7 hg7 hw7 hkq
              refine hK.out _ _ ⟨(hh7.at_ 2).trans rfl, (hz7.at_ 0).trans rfl, (hz7.at_ 1).trans rfl, (hz7.at_ 2).trans rfl⟩ (fun hHeld44 => ?_)
              clear hK K
              try simp only [Act.put, List.setIfInBounds_toArray]
              refine takeO (i := 17) (v := ?_) (by kernel_rfl) (by kernel_rfl) (by kernel_rfl) (fun c a d v w h => by cases d <;> exact h) (oi := ?_) ?_ ?_ (by assumption) ?_
              rotate_left 2
              · (simp only [List.getElem?_toArray, List.getElem?_cons_succ, List.getElem?_cons_zero]; rfl)
              · (refine Or.inl ⟨by rfl, ?_⟩; intro w hSw; (try dsimp only at hSw); obtain ⟨hS0, hS1, hS2, hS3⟩ := hSw; go_simp; try with_reducible rfl)
              try simp only [Act.put]
              refine wpAnyH_ready (rs := [18]) (by kernel_rfl) (by simp) ?_
              refine AllReadyH.cons rfl (fun K hK => ?_) AllReadyH.nil
              go_simp
              refine hK.out _ _ (let hy := hz7.keep ((Keep.refl (· = pb) w7).put d _) (fun e => hqp e); ⟨(HX7.out.hdr.at_ 2).trans rfl, (hy.at_ 0).trans rfl, (hy.at_ 1).trans rfl, (hy.at_ 2).trans rfl⟩) (fun hHeld44 => ?_)
              clear hK K
              try simp only [Act.put, List.setIfInBounds_toArray, List.set_cons_zero, List.set_cons_succ]
              refine wpAnyH_done (by kernel_rfl) ?_ _
              exact REST A7 c7 g42 _ ⟨_, HX7.out⟩)
        case rest =>
          intro A8 c8 g8 v2 hF
          have HF := hid hF
          clear hF
          go_wp2_with fail
          go_ret
          obtain ⟨V2, hx⟩ := HF.out
          exact ⟨⟨_, rfl⟩, _, _, _, _, hx, by simp, rows_set HR.out⟩

end Go.Proofs.Ytmllpapkgfclkaa

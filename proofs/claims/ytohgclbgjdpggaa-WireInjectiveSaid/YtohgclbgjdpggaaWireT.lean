import Derived.Test.YtohgclbgjdpggaaWireS
namespace Go.Proofs.Ytohgclbgjdpggaa
open Go.RowKit

/-- append(v, s...) of a string as one step of a region that draws -/
theorem Elem.stepStr {P : Program} {t e u : TypeId} (E : Elem P t e 1 1 (.int .u8 0)) (hu : P.underlying u = some .string) {ops : Array Oper} {o : Oper} {a : Act} {w : World} {K : Act → World → Prop} {Q : Exit → Act → World → Prop} {F : Prop}
    (hg : o.guard = none) (s x : Operand) (hop : o.op = Op.call { callee := Callee.builtin Builtin.append, args := #[s, x], argTypes := #[t, u] })
    (v : Value) (d : ByteArray) (hs : a.eval s = v) (hx : a.eval x = .string d)
    (base n : Nat) (xs : List Value) (k : Nat) (ys : List Value) (hk : n + d.size = k) (hys : xs ++ bcells d.data.toList = ys) (hown : Own w base e 1 v n xs)
    (hb : k ≤ 140737488355328) (h63 : k ≤ maxLen) (hbase : base ≤ w.heap.size)
    (hK : ∀ A' c' w', Own w' base e 1 (.slice A' k c') k ys → w.grownBy w' v.ownBlock → (A'.map (·.block) = v.ownBlock ∨ A'.map (·.block) = some w.heap.size) → K (a.put o.dst (.slice A' k c')) w') :
    if Region.wanted o (yielded ops a.tmps) = true then Oper.wp P o a w K Q else F := by
  subst hk hys
  have hw : Region.wanted o (yielded ops a.tmps) = true := by simp [Region.wanted, hg]
  rw [if_pos hw]
  obtain ⟨i, hi, hz, hsz, hby⟩ := info_parts E.info
  obtain ⟨v', w', hr, h2, h3, _⟩ := Lib.run_append_own_string (P := P) w base t u o.type e i E.under hu hi hz hsz hby v n xs hown d h63 hb hbase
  have hwh := append_str_where E hu w base o.type v n xs hown d hb h63 hr
  unfold Oper.wp execOp
  simp only [hop, resolve, invoke, builtin, Sem.run_bind, Sem.run_pure, Result.andThen_ok, List.map_toArray, List.map_cons, List.map_nil, hs, hx, hr]
  obtain ⟨A', c', rfl⟩ := Own.shape h2
  refine hK A' c' w' h2 h3 ?_
  cases A' <;> simpa [Value.ownBlock] using hwh

theorem OwnPost.of {w w1 : World} {bs : List UInt8} {e : Ending} {w' : World} (hk : Same w w1) (h : OwnPost w1 bs e w') : OwnPost w bs e w' := by
  obtain ⟨A, c, h1, h2, h3⟩ := h
  exact ⟨A, c, h1, h2.rebase (fun g hg => Nat.le_trans hk.size (h2.block g hg)), hk.then h3⟩
/-- the loop over the integers -/
def PutL (w1 : World) (base : Nat) (l : List Int) (k : Nat) (o : Value) (wr : World) : Prop :=
  ∃ (A : Option Addr) (c m : Nat), o = .slice A m c ∧ (encI (l.length : Int) ++ encIs (l.take k)).length = m ∧ Own wr base 5 1 (.slice A m c) m (bcells (encI (l.length : Int) ++ encIs (l.take k))) ∧ Same w1 wr

section
variable (w : World) (Av : Nat → Prop) (x : Tm) (hx : TmOk w Av x) (hok : OkT x.pt)
include hx hok
set_option maxRecDepth 100000 in
set_option maxHeartbeats 4000000 in
theorem put_any : Calls Try.prog 19 #[.agg x.cells.toArray] w (OwnPost w (putT x.pt)) := by
  have hk0 := hok.k0
  have hk4 := hok.k4
  have hnn := hok.n
  have hd := hok.d
  have hl := hok.l
  have he := hok.e
  have hbl := hx.len
  have hka : Same w (w.alloc (.cells x.cells.toArray 33)) := (Keep.refl _ w).alloc _
  have HBX := hid (Blk.made w 33 x.cells.toArray)
  have HX := hid (hx.same hka)
  have HK := hid hka
  obtain ⟨k, n, b, s, B, m, d, l⟩ := x
  simp only [Tm.pt] at hk0 hk4 hnn hd hl he hbl
  have hsz : s.size ≤ 1000000 := by have : s.data.toList.length = s.size := Array.length_toList; omega
  have HE := hid he
  have HBL := hid hbl
  have hm : m ≤ 1000000 := by omega
  obtain ⟨hn0, hn1⟩ := hnn
  clear hx hok hka he hd hbl
  simp only [Tm.cells] at HX HK HBX ⊢
  have hk : k = 0 ∨ k = 1 ∨ (k = 2 ∨ k = 3) ∨ k = 4 := by omega
  rcases hk with rfl | rfl | hk | rfl
  · rw [show putT (Tm.pt ⟨0, n, b, s, B, m, d, l⟩) = encI n by simp [putT, Tm.pt]]
    go_enter Try.func19, Try.ntmps19
    go_wp2_with fail
    refine (pInt_any _ n hn0 hn1).mono ?_
    rintro e w2 ⟨A2, c2, rfl, g1, g2⟩
    go_wp2
    go_ret
    exact OwnPost.of HK.out ⟨A2, c2, rfl, g1, g2⟩
  · rw [show putT (Tm.pt ⟨1, n, b, s, B, m, d, l⟩) = encB b by simp [putT, Tm.pt]]
    cases b
    all_goals
      go_enter Try.func19, Try.ntmps19
      go_wp2
      go_ret
      refine OwnPost.of HK.out ⟨_, 1, rfl, ?_, (Keep.refl _ _).alloc _⟩
      exact Own.of_blk (by simp) (by rw [← World.size_alloc (w := w)]; exact Blk.made _ _ _) (Nat.le_refl _) (by decide) rfl rfl
  · rw [show putT (Tm.pt ⟨k, n, b, s, B, m, d, l⟩) = encD s.data.toList by rcases hk with rfl | rfl <;> simp [putT, Tm.pt]]
    have hsl : s.data.toList.length = s.size := Array.length_toList
    have hie := encI_le (n := (s.size : Int)) ⟨by omega, by omega⟩
    have HEq := hid (show encD s.data.toList = encI (s.size : Int) ++ s.data.toList by rw [encD, hsl])
    rw [HEq.out]
    have hkd : Same w (w.alloc (.cells #[.int .i64 k, .int .i64 n, .bool b, .string s, .slice B m d] 33)).drew := HK.out.drew
    have HKD := hid hkd
    have HC := hid (pInt_any (w.alloc (.cells #[.int .i64 k, .int .i64 n, .bool b, .string s, .slice B m d] 33)).drew (s.size : Int) (by omega) (by omega))
    have hb0 := HBX.out.drew
    have q0 : (w.alloc (.cells #[.int .i64 k, .int .i64 n, .bool b, .string s, .slice B m d] 33)).drew.cell? ⟨w.heap.size, 3, none⟩ = some (.string s) := hb0.at_ 3
    have hs0 := hid q0
    have HB0 := hid hb0
    have HSL := hid hsl
    generalize encI (s.size : Int) = ei at *
    clear hkd hb0 hsl HEq
    generalize heil : ei.length = eil at *
    have HEIL := hid heil
    clear heil q0
    rcases hk with rfl | rfl
    all_goals
      go_enter Try.func19, Try.ntmps19
      go_wp2
      go_region_held3 (fun W => W.cell? ⟨w.heap.size, 3, none⟩ = some (.string s))
        (first | exact hs0.out | exact hs2.out | exact hs3.out | go_keep)
        (first
          | (go_at_call 34; (with_reducible refine HC.out.mono ?_); rintro e w2 ⟨A2, c2, rfl, g1, g2⟩
             rw [HEIL.out] at g1 ⊢
             have HO2 := hid g1
             have HG2 := hid g2
             have hs2 : Hid (w2.cell? ⟨w.heap.size, 3, none⟩ = some (.string s)) := hid ((HB0.out.keep g2 (fun f => f)).at_ 3)
             have HB2 := hid (HB0.out.keep g2 (fun f => f))
             have hz2 := HG2.out.size
             clear g1 g2)
          | (refine EBy.stepStr u_str rfl (.tmp 24) (.tmp 26) rfl (.slice A2 eil c2) s rfl rfl _ eil (bcells ei) (eil + s.size) _ rfl rfl HO2.out (by omega) (by unfold maxLen; omega) hz2 ?_
             intro A' c' w3 ho hg hw
             have hkk := HG2.out.app HO2.out hg (fun g h1 h2 => by omega)
             have HO3 := hid ho
             have HG3 := hid hkk
             have hs3 : Hid (w3.cell? ⟨w.heap.size, 3, none⟩ = some (.string s)) := hid ((HB0.out.keep hkk (fun f => f)).at_ 3)
             clear ho hg hw hkk))
      all_goals
        go_wp2
        go_ret
        have hlen : (ei ++ s.data.toList).length = eil + s.size := by rw [List.length_append, HEIL.out, HSL.out]
        refine OwnPost.of HKD.out ⟨A', c', by rw [hlen]; rfl, ?_, HG3.out⟩
        rw [hlen, bcells_app]
        exact HO3.out
  · rw [show putT (Tm.pt ⟨4, n, b, s, B, m, d, l⟩) = encI (l.length : Int) ++ encIs l by simp [putT, Tm.pt, encL]]
    have hie := encI_le (n := (l.length : Int)) ⟨by omega, by omega⟩
    have HEL := hid (fun k => encIs_le (l.take k) (fun y hy => HE.out y (List.mem_of_mem_take hy)))
    go_enter Try.func19, Try.ntmps19
    go_wp2_with fail
    refine (pInt_any _ (m : Int) (by omega) (by omega)).mono ?_
    rintro e w2 ⟨A2, c2, rfl, g1, g2⟩
    have HI : Hid (PutL (w.alloc (.cells #[.int .i64 4, .int .i64 n, .bool b, .string s, .slice B m d] 33)) (w.heap.size + 1) l 0 (.slice A2 (encI (m : Int)).length c2) w2) := hid ⟨A2, c2, _, rfl, by simp [encIs, HBL.out], by simpa [encIs, HBL.out] using g1, g2⟩
    generalize (encI (m : Int)).length = mm at *
    clear g1 g2
    go_wp2
    go_loopw [3, 4] (fun o i wr => ∃ k : Nat, k ≤ m ∧ i = .int .i64 k ∧ PutL (w.alloc (.cells #[.int .i64 4, .int .i64 n, .bool b, .string s, .slice B m d] 33)) (w.heap.size + 1) l k o wr) (fun _ i _ => m - (RowKit.intOf i).toNat)
    case atStart => exact ⟨0, by omega, rfl, HI.out⟩
    case round =>
      obtain ⟨k, hkm, rfl, A3, c3, m3, rfl, hl3, hO, hK⟩ := hrel
      have hbx := HBX.out.keep hK (fun f => f)
      have x4 : wr.cell? ⟨w.heap.size, 4, none⟩ = some (.slice B m d) := hbx.at_ 4
      have hzr := hbx.lt
      have HL3 := hid hl3
      have HO := hid hO
      have HK3 := hid hK
      have hm3 : m3 ≤ 10000010 := by have := HEL.out k; simp at hl3 this; have := HBL.out; omega
      by_cases hlt : k < m
      · obtain ⟨y, hy⟩ := get_some (l := l) (k := k) (by have := HBL.out; omega)
        obtain ⟨bb, off, rfl, hb, _, hr⟩ := HX.out.sl.at_ (show 0 < m by omega)
        have q0 : wr.cell? ⟨bb, off + k, none⟩ = some (.int .i64 y) := (hK.cell (p := ⟨bb, off + k, none⟩) hb (fun f => f)).trans (hr k _ (by simp [hy]))
        have hyo := HE.out y (List.mem_of_getElem? hy)
        obtain ⟨hy0, hy1⟩ := hyo
        have HN := hid (show encI (l.length : Int) ++ encIs (l.take (k + 1)) = encI (l.length : Int) ++ encIs (l.take k) ++ encI y by rw [take_snoc hy, encIs_snoc]; simp)
        have hye := encI_le (n := y) ⟨hy0, hy1⟩
        clear hbx hl3 hO hK hr hy
        go_wp2_with fail
        refine (pInt_any wr y hy0 hy1).mono ?_
        rintro e w4 ⟨A4, c4, rfl, g1, g2⟩
        have HO4 := hid (HO.out.keep g2 (fun _ _ _ f => f))
        have HSR := hid ((g1.sl (Av := fun _ => False) (fun _ _ f => f)).src (Keep.refl _ w4))
        have HK4 := hid (HK3.out.then g2)
        have hz4 := g2.size
        generalize hyl : (encI y).length = yl at *
        have HYL := hid hyl
        clear g1 g2 hyl
        go_wp2_with (
          at_builtin
          refine EBy.law2 (.tmp 41) (.tmp 47) (.slice A3 m3 c3) A4 yl c4 rfl rfl rfl rfl (w.heap.size + 1) m3 _ (bcells (encI y)) (m3 + yl) _ rfl rfl HO4.out (by rw [bcells_len, HYL.out]; omega) HSR.out (bcells_one _) (by omega) (by unfold maxLen; omega) (by omega) ?_
          intro A' c' w5 ho hg hw
          have hkk := HK4.out.app HO4.out hg (fun g h1 h2 => by simp at h2; omega)
          have HO5 := hid ho
          have HK5 := hid hkk
          clear ho hg hw hkk)
        go_roundw
        case rel => exact ⟨k + 1, by omega, by go_num, A', c', m3 + yl, rfl, by rw [HN.out, List.length_append, HL3.out, HYL.out], by rw [HN.out, bcells_app]; exact HO5.out, HK5.out⟩
        case measure => simp [RowKit.intOf]; omega
      · have e1 : l.take k = l := List.take_of_length_le (by have := HBL.out; omega)
        rw [e1] at hO hl3
        have HO := hid hO
        have HL3 := hid hl3
        have HK3 := hid hK
        clear hbx hl3 hO hK e1
        go_wp2
        go_ret
        refine OwnPost.of (HK.out) ⟨A3, c3, by rw [HL3.out]; rfl, ?_, HK3.out⟩
        rw [HL3.out, World.size_alloc]
        exact HO.out
end
end Go.Proofs.Ytohgclbgjdpggaa

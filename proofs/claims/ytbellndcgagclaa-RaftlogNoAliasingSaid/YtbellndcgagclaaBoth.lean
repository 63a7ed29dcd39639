import Derived.Test.YtbellndcgagclaaPair
namespace Go.Proofs.Ytbellndcgagclaa
open Go.RowKit

/-- the log and the model both hold q -/
def Both (w : World) (B0 lb : Nat) (X : Option Addr) (n c : Nat) (q : List PE) : Prop :=
  ∃ r A d l m, IsLog w (· < B0) lb r A d l ∧ Ls w (fun i => i = lb ∨ some i = r) X n c m ∧ l.map En.pe = q ∧ m.map En.pe = q
def addAll (q : List PE) (es : List PE) : List PE := es.foldl (addL id) q
def actQ (q : List PE) (a : LAct) : List PE := if a.put = true then putL id q a.prev a.term (a.es.map En.pe) else addAll q (a.es.map En.pe)
theorem addL_len {α : Type} (p : α → PE) (q : List α) (e : α) : (addL p q e).length ≤ q.length + 1 := by unfold addL; split <;> simp
theorem addAll_snoc (q : List PE) (es : List PE) (e : PE) : addAll q (es ++ [e]) = addL id (addAll q es) e := by simp [addAll]
theorem addAll_len (q : List PE) (es : List PE) : (addAll q es).length ≤ q.length + es.length := by
  induction es generalizing q with
  | nil => simp [addAll]
  | cons e es ih =>
    have h1 := ih (addL id q e)
    have h2 := addL_len id q e
    simp only [addAll, List.foldl_cons, List.length_cons] at *
    omega
theorem putL_len (q : List PE) (prev term : Int) (es : List PE) : (putL id q prev term es).length ≤ q.length + es.length := by
  unfold putL
  split
  · omega
  · split
    · unfold putC
      split
      · simp; omega
      · omega
    · omega
theorem actQ_len (q : List PE) (a : LAct) : (actQ q a).length ≤ q.length + a.es.length := by
  unfold actQ
  split
  · have := putL_len q a.prev a.term (a.es.map En.pe); simpa using this
  · have := addAll_len q (a.es.map En.pe); simpa using this
theorem Both.mk' {w6 w7 : World} {B0 lb : Nat} {r r' : Option Nat} {A' Y : Option Addr} {c' N d : Nat} {l' m' : List En} {q : List PE} (hI : IsLog w7 (· < B0) lb r' A' c' l') (hL : Ls w6 (fun i => i = lb ∨ some i = r) Y N d m')
    (hK : Keep (fun i => i = lb ∨ some i = r) w6 w7) (hr : ∀ g, r' = some g → r = some g ∨ w6.heap.size ≤ g) (hl : l'.map En.pe = q) (hm : m'.map En.pe = q) : Both w7 B0 lb Y N d q := by
  refine ⟨r', A', c', l', m', hI, ?_, hl, hm⟩
  have h1 : Ls w6 (fun i => (i = lb ∨ some i = r) ∨ some i = r') Y N d m' := hL.wide (fun i hi hs => by
    rcases hs with hs | hs
    · exact hs
    · rcases hr i hs.symm with h | h
      · exact .inr h.symm
      · omega)
  exact (h1.keep hK (fun i _ hs => .inl hs)).wide (fun i _ hs => by
    rcases hs with hs | hs
    · exact .inl (.inl hs)
    · exact .inr hs)
theorem Both.len {w : World} {B0 lb : Nat} {X : Option Addr} {n c : Nat} {q : List PE} (h : Both w B0 lb X n c q) : q.length = n := by
  obtain ⟨r, A, d, l, m, _, h2, _, h4⟩ := h
  rw [← h4, List.length_map, h2.len]
theorem Both.keep {w w' : World} {B0 lb : Nat} {X : Option Addr} {n c : Nat} {q : List PE} (h : Both w B0 lb X n c q) (hk : Same w w') : Both w' B0 lb X n c q := by
  obtain ⟨r, A, d, l, m, h1, h2, h3, h4⟩ := h
  exact ⟨r, A, d, l, m, h1.same hk, h2.same hk, h3, h4⟩
theorem LogPost.both {w6 w7 : World} {B0 lb : Nat} {r : Option Nat} {Y : Option Addr} {N d : Nat} {m' : List En} {q : List PE} {v : Value} {e : Ending} (h : LogPost w6 (· < B0) lb r q v e w7) (hL : Ls w6 (fun i => i = lb ∨ some i = r) Y N d m') (hm : m'.map En.pe = q) (hlb : B0 ≤ lb) (hr0 : ∀ g, r = some g → B0 ≤ g) :
    e = .returned v ∧ Both w7 B0 lb Y N d q ∧ Keep (B0 ≤ ·) w6 w7 := by
  obtain ⟨r', A', c', l', he, h1, h2, h3, h4⟩ := h
  exact ⟨he, Both.mk' h1 hL h3 h4 h2 hm, h3.wide (fun i _ hs => by
    rcases hs with hs | hs
    · omega
    · exact hr0 i hs.symm)⟩

def DoPost (w : World) (B0 lb : Nat) (q : List PE) (e : Ending) (w' : World) : Prop :=
  ∃ Y N d, e = .returned (.tuple #[.slice Y N d, .bool true]) ∧ Both w' B0 lb Y N d q ∧ Keep (B0 ≤ ·) w w'
set_option maxHeartbeats 8000000 in
set_option maxRecDepth 100000 in
theorem do_any (w : World) (B0 lb : Nat) (X : Option Addr) (n c : Nat) (q : List PE) (h : Both w B0 lb X n c q) (hB : B0 ≤ w.heap.size) (hn : n ≤ 300) (a : LAct) (ha : Ls w (B0 ≤ ·) a.X a.n a.c a.es) (han : a.n ≤ 300) :
    Calls Try.prog 18 #[.pointer (some ⟨lb, 0, none⟩), .slice X n c, .agg #[.bool a.put, .int .i64 a.prev, .int .i64 a.term, .slice a.X a.n a.c]] w (DoPost w B0 lb (actQ q a)) := by
  obtain ⟨put, prev, term, aX, an, ac, es⟩ := a
  simp only at ha han ⊢
  have hk1 : Same w (w.alloc (.cells #[.bool put, .int .i64 prev, .int .i64 term, .slice aX an ac] 33)) := (Keep.refl _ w).alloc _
  have HK1 := hid hk1
  have HB1 := hid (Blk.made w 33 #[.bool put, .int .i64 prev, .int .i64 term, .slice aX an ac])
  have Ha := hid ha
  have HB := hid h
  clear h ha hk1
  cases put
  · have e5 : actQ q ⟨false, prev, term, aX, an, ac, es⟩ = addAll q (es.map En.pe) := by simp [actQ]
    rw [e5]
    clear e5
    go_enter Try.func18, Try.ntmps18
    go_wp2_with fail
    go_loopw [1, 57] (fun x i wr => ∃ j : Nat, ∃ X n c, j ≤ an ∧ i = .int .i64 j ∧ x = .slice X n c ∧ n ≤ 300 + j ∧ Hid (Both wr B0 lb X n c (addAll q ((es.take j).map En.pe))) ∧ Hid (Keep (B0 ≤ ·) w wr)) (fun _ i _ => an - (RowKit.intOf i).toNat)
    case atStart => exact ⟨0, X, n, c, by omega, rfl, rfl, by omega, hid (by simpa [addAll] using HB.out.keep HK1.out), hid (HK1.out.wide (fun _ _ f => f.elim))⟩
    case round =>
      obtain ⟨j, X1, n1, c1, hj, rfl, rfl, hn1, HBj, HKj⟩ := hrel
      by_cases hjn : j < an
      · obtain ⟨x, hx⟩ := get_some (l := es) (k := j) (by have := Ha.out.len; omega)
        have Hx := hid hx
        have HLe := hid (Ha.out.keep HKj.out (fun _ _ hs => hs))
        obtain ⟨b, off, e1, c0, c1', c2⟩ := HLe.out.at_ hx
        subst e1
        obtain ⟨b', off', e1, d0, d1, d2⟩ := (HLe.out.same ((Keep.refl (fun _ => False) wr).alloc (.cells #[.int .i64 0, .int .i64 0, .slice none 0 0] 46))).at_ hx
        cases e1
        have hk1 : (j : Int) < (an : Int) := by omega
        have hb := (Blk.made wr 46 #[.int .i64 0, .int .i64 0, .slice none 0 0])
        have f0 := hb.free 0
        have f1 := hb.free 1
        have f2 := hb.free 2
        have z0 : (wr.alloc (.cells #[.int .i64 0, .int .i64 0, .slice none 0 0] 46)).cell? ⟨wr.heap.size, 0, none⟩ = some (.int .i64 0) := hb.at_ 0
        have z1 : (wr.alloc (.cells #[.int .i64 0, .int .i64 0, .slice none 0 0] 46)).cell? ⟨wr.heap.size, 1, none⟩ = some (.int .i64 0) := hb.at_ 1
        have z2 : (wr.alloc (.cells #[.int .i64 0, .int .i64 0, .slice none 0 0] 46)).cell? ⟨wr.heap.size, 2, none⟩ = some (.slice none 0 0) := hb.at_ 2
        have hb2 := (Blk.made wr 46 #[.int .i64 x.t, .int .i64 x.k, .slice x.A x.m x.c])
        have y0 : (wr.alloc (.cells #[.int .i64 x.t, .int .i64 x.k, .slice x.A x.m x.c] 46)).cell? ⟨wr.heap.size, 0, none⟩ = some (.int .i64 x.t) := hb2.at_ 0
        have y1 : (wr.alloc (.cells #[.int .i64 x.t, .int .i64 x.k, .slice x.A x.m x.c] 46)).cell? ⟨wr.heap.size, 1, none⟩ = some (.int .i64 x.k) := hb2.at_ 1
        have y2 : (wr.alloc (.cells #[.int .i64 x.t, .int .i64 x.k, .slice x.A x.m x.c] 46)).cell? ⟨wr.heap.size, 2, none⟩ = some (.slice x.A x.m x.c) := hb2.at_ 2
        have HB2 := hid hb2
        have hsv : Same wr (wr.alloc (.cells #[.int .i64 x.t, .int .i64 x.k, .slice x.A x.m x.c] 46)) := (Keep.refl _ wr).alloc _
        have HSv := hid hsv
        obtain ⟨r, A, d, l, m, h1, h2, h3, h4⟩ := HBj.out
        have hlb : B0 ≤ lb := by have := h1.lbv; simpa using this
        have hr0 : Hid (∀ g, r = some g → B0 ≤ g) := hid (fun g e => by have := (h1.rv g e).1; simpa using this)
        have hln : l.length ≤ 600 := by
          have e1 := congrArg List.length h3
          have e2 := congrArg List.length h4
          have e3 := h2.len
          simp at e1 e2
          omega
        have hlt : lb < wr.heap.size := h1.top.lt
        have hav : Hid (∀ i, (i = lb ∨ some i = r) → i < wr.heap.size) := hid (fun i hi => by
          rcases hi with rfl | hi
          · exact hlt
          · exact h1.row.lt i (by rw [h1.ownBlock]; exact hi.symm))
        have hxe := HLe.out.el x (List.mem_of_getElem? hx)
        have hea : Hid (EnOk wr (fun i => i = lb ∨ some i = r) x) := hid (hxe.wide (fun i _ hi => by
          rcases hi with rfl | hi
          · exact hlb
          · exact hr0.out i hi.symm))
        have HP := hid (radd_any _ (fun i => i = lb ∨ some i = r) (fun i hi => Nat.lt_of_lt_of_le (hav.out i hi) hsv.size) X1 n1 c1 m (h2.same hsv) (by omega) x (hea.out.same hsv))
        have HQ := hid (fun W (hs : Same wr W) => append_any W (· < B0) (fun i hi => Nat.lt_of_lt_of_le hi (Nat.le_trans hB (Nat.le_trans HKj.out.size hs.size))) lb r A d l (h1.same hs) (by omega) x _ (hea.out.same hs))
        have e1 : addErr En.pe m x = addErr id (addAll q ((es.take j).map En.pe)) x.pe := by rw [← h4, addErr_map]
        have e2 : addErr En.pe l x = addErr id (addAll q ((es.take j).map En.pe)) x.pe := by rw [← h3, addErr_map]
        have e3 : addN En.pe m x = addN id (addAll q ((es.take j).map En.pe)) x.pe := by rw [← h4, addN_map]
        have e4 : addN En.pe l x = addN id (addAll q ((es.take j).map En.pe)) x.pe := by rw [← h3, addN_map]
        have e6 : (addL En.pe m x).map En.pe = addL id (addAll q ((es.take j).map En.pe)) x.pe := by rw [← h4, addL_map]
        have e7 : (addL En.pe l x).map En.pe = addL id (addAll q ((es.take j).map En.pe)) x.pe := by rw [← h3, addL_map]
        rw [e1, e3] at HP
        rw [e2, e4, e7] at HQ
        have E6 := hid e6
        have Hst := hid (show addAll q ((es.take (j + 1)).map En.pe) = addL id (addAll q ((es.take j).map En.pe)) x.pe by rw [take_snoc hx, List.map_append, List.map_cons, List.map_nil, addAll_snoc])
        have hNl : (addL En.pe m x).length ≤ n1 + 1 := by have := addL_len En.pe m x; have := h2.len; omega
        unfold En.val at HP HQ
        clear e1 e2 e3 e4 e6 e7 h1 h2 h3 h4 HBj hx hxe hb hb2 hsv
        generalize addErr id (addAll q ((es.take j).map En.pe)) x.pe = er at *
        generalize addN id (addAll q ((es.take j).map En.pe)) x.pe = an' at *
        generalize hML : (addL En.pe m x).length = N at *
        go_wp2_with (first
          | (go_at_call 41; refine HP.out.mono ?_; rintro e w2 ⟨Y, D, rfl, hY, hk2⟩
             have HY := hid hY
             have HK2 := hid (HSv.out.then hk2)
             have hB2 := HB2.out.keep hk2 (fun f => f)
             have g0 : w2.cell? ⟨wr.heap.size, 0, none⟩ = some (.int .i64 x.t) := hB2.at_ 0
             have g1 : w2.cell? ⟨wr.heap.size, 1, none⟩ = some (.int .i64 x.k) := hB2.at_ 1
             have g2 : w2.cell? ⟨wr.heap.size, 2, none⟩ = some (.slice x.A x.m x.c) := hB2.at_ 2
             have HQ2 := hid (HQ.out _ HK2.out)
             clear hY hk2 hB2)
          | (go_at_call 29; refine HQ2.out.mono ?_; intro e w3 hPost
             obtain ⟨rfl, hBo, hk3⟩ := hPost.both HY.out E6.out hlb hr0.out
             have HBo := hid hBo
             have HK3 := hid ((HK2.out.wide (fun _ _ f => f.elim)).trans hk3 (fun _ _ hs => hs))
             clear hBo hk3 hPost))
        go_roundw
        case rel => exact ⟨j + 1, Y, N, D, by omega, by go_num, rfl, by omega, hid (by rw [Hst.out, ← hML]; exact HBo.out), hid (HKj.out.trans HK3.out (fun _ _ hs => hs))⟩
        case measure => simp [RowKit.intOf]; omega
      · obtain rfl : j = an := by omega
        go_wp2_with fail
        go_ret2
        refine ⟨X1, n1, c1, rfl, ?_, HKj.out⟩
        have h := HBj.out
        rwa [List.take_of_length_le (by have := Ha.out.len; omega)] at h
  · obtain ⟨r, A, d, l, m, h1, h2, h3, h4⟩ := HB.out
    have hlb : B0 ≤ lb := by have := h1.lbv; simpa using this
    have hr0 : Hid (∀ g, r = some g → B0 ≤ g) := hid (fun g e => by have := (h1.rv g e).1; simpa using this)
    have hln : l.length ≤ 300 := by
      have e1 := congrArg List.length h3
      have e2 := congrArg List.length h4
      have e3 := h2.len
      simp at e1 e2
      omega
    have hlt : lb < w.heap.size := h1.top.lt
    have hav : Hid (∀ i, (i = lb ∨ some i = r) → i < w.heap.size) := hid (fun i hi => by
      rcases hi with rfl | hi
      · exact hlt
      · exact h1.row.lt i (by rw [h1.ownBlock]; exact hi.symm))
    have hea : Hid (Ls w (fun i => i = lb ∨ some i = r) aX an ac es) := hid (Ha.out.wide (fun i _ hi => by
      rcases hi with rfl | hi
      · exact hlb
      · exact hr0.out i hi.symm))
    have HP := hid (rput_any _ (fun i => i = lb ∨ some i = r) (fun i hi => Nat.lt_of_lt_of_le (hav.out i hi) HK1.out.size) X aX n c an ac m es (h2.same HK1.out) (hea.out.same HK1.out) (by omega) (by omega) prev term)
    have HQ := hid (fun W (hs : Same w W) => appendAfter_any W (· < B0) (fun i hi => Nat.lt_of_lt_of_le hi (Nat.le_trans hB hs.size)) lb r A d l es l.length an ac aX (h1.same hs) rfl (hea.out.same hs) (by omega) (by omega) prev term)
    have e1 : putOk En.pe m prev term es = putOk id q prev term (es.map En.pe) := by rw [← h4, putOk_map]
    have e2 : putOk En.pe l prev term es = putOk id q prev term (es.map En.pe) := by rw [← h3, putOk_map]
    have e3 : (putL En.pe m prev term es).map En.pe = putL id q prev term (es.map En.pe) := by rw [← h4, putL_map]
    have e4 : (putL En.pe l prev term es).map En.pe = putL id q prev term (es.map En.pe) := by rw [← h3, putL_map]
    have e5 : actQ q ⟨true, prev, term, aX, an, ac, es⟩ = putL id q prev term (es.map En.pe) := by simp [actQ]
    unfold PutQ at HP
    unfold PutLog at HQ
    rw [e1] at HP
    rw [e2, e4] at HQ
    rw [e5]
    have E3 := hid e3
    clear e1 e2 e3 e4 e5 h1 h2 h3 h4 HB
    generalize putOk id q prev term (es.map En.pe) = ok at *
    generalize putE En.pe prev term es = er at *
    have b0 : (w.alloc (.cells #[.bool true, .int .i64 prev, .int .i64 term, .slice aX an ac] 33)).cell? ⟨w.heap.size, 0, none⟩ = some (.bool true) := HB1.out.at_ 0
    go_enter Try.func18, Try.ntmps18
    go_wp2_with (first
      | (go_at_call 40; refine HP.out.mono ?_; rintro e w2 ⟨Y, N, D, rfl, hY, hk2⟩
         have HY := hid hY
         have HK2 := hid (HK1.out.then hk2)
         have HB2 := hid (HB1.out.keep hk2 (fun f => f))
         have d1 : w2.cell? ⟨w.heap.size, 1, none⟩ = some (.int .i64 prev) := HB2.out.at_ 1
         have d2 : w2.cell? ⟨w.heap.size, 2, none⟩ = some (.int .i64 term) := HB2.out.at_ 2
         have d3 : w2.cell? ⟨w.heap.size, 3, none⟩ = some (.slice aX an ac) := HB2.out.at_ 3
         have HQ2 := hid (HQ.out _ HK2.out)
         clear hY hk2)
      | (go_at_call 16; refine HQ2.out.mono ?_; intro e w3 hPost
         obtain ⟨rfl, hBo, hk3⟩ := hPost.both HY.out E3.out hlb hr0.out
         have HBo := hid hBo
         have HK3 := hid ((HK2.out.wide (fun _ _ f => f.elim)).trans hk3 (fun _ _ hs => hs))
         clear hBo hk3 hPost))
    go_ret2
    exact ⟨Y, N, D, rfl, HBo.out, HK3.out⟩
end Go.Proofs.Ytbellndcgagclaa

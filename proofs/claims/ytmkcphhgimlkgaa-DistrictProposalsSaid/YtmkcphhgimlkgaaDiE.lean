import Derived.Test.YtmkcphhgimlkgaaDiD
namespace Go.Proofs.Ytmkcphhgimlkgaa
open Go.RowKit

theorem EBo : Elem Try.prog 89 4 1 1 (.bool false) := ⟨Try.underlying89, by kernel_rfl, rfl, by decide⟩
theorem ECm : Elem Try.prog 41 52 19 176 (.agg (cmdV 0 0 0 0).toArray) := ⟨Try.underlying41, by kernel_rfl, rfl, by decide⟩

def propAt (n : Nat) (dur ce now again : Int) (p : Nat → Bool) (l : List St) (d : Nat) : List (Int × Int × Int) := match l[d]? with
  | some s => if propK n dur ce now again p d s = 0 then [] else [(propK n dur ce now again p d s, (d : Int), s.e)]
  | none => []
def propsTo (n : Nat) (dur ce now again : Int) (p : Nat → Bool) (l : List St) (k : Nat) : List (Int × Int × Int) := (List.range k).flatMap (propAt n dur ce now again p l)
def cmds (ce : Int) (L : List (Int × Int × Int)) : List Value := L.flatMap (fun x => cmdV x.1 x.2.1 ce x.2.2)
theorem cmds_len (ce : Int) (L : List (Int × Int × Int)) : (cmds ce L).length = L.length * 19 := flat_len _ 19 (fun _ => rfl) L
theorem cmds_get (ce : Int) (L : List (Int × Int × Int)) (i j : Nat) (hj : j < 19) : (cmds ce L)[i * 19 + j]? = (L[i]?).bind (fun x => (cmdV x.1 x.2.1 ce x.2.2)[j]?) := flat_get _ 19 (fun _ => rfl) L i j hj
theorem cmds_snoc (ce : Int) (L : List (Int × Int × Int)) (x : Int × Int × Int) : cmds ce (L ++ [x]) = cmds ce L ++ cmdV x.1 x.2.1 ce x.2.2 := by simp [cmds]
theorem cmdV_one (a b c d : Int) : ∀ u ∈ cmdV a b c d, u.oneCell' = true := by
  intro u hu
  simp only [cmdV, List.mem_cons, List.not_mem_nil, or_false] at hu
  rcases hu with rfl | rfl | rfl | rfl | rfl | rfl | rfl | rfl | rfl | rfl | rfl | rfl | rfl | rfl | rfl | rfl | rfl | rfl | rfl <;> rfl
section
variable {n : Nat} {dur ce now again : Int} {p : Nat → Bool} {l : List St}
theorem propsTo_succ (k : Nat) : propsTo n dur ce now again p l (k + 1) = propsTo n dur ce now again p l k ++ propAt n dur ce now again p l k := by
  rw [propsTo, propsTo, List.range_succ]; simp
theorem propAt_zero {k : Nat} {s : St} (hs : l[k]? = some s) (h : propK n dur ce now again p k s = 0) : propAt n dur ce now again p l k = [] := by simp [propAt, hs, h]
theorem propAt_some {k : Nat} {s : St} (hs : l[k]? = some s) (h : propK n dur ce now again p k s ≠ 0) : propAt n dur ce now again p l k = [(propK n dur ce now again p k s, (k : Int), s.e)] := by simp [propAt, hs, h]
theorem propAt_le (k : Nat) : (propAt n dur ce now again p l k).length ≤ 1 := by
  unfold propAt; split
  · split <;> simp
  · simp
theorem propsTo_le (k : Nat) : (propsTo n dur ce now again p l k).length ≤ k := by
  induction k with
  | zero => simp [propsTo]
  | succ k ih => rw [propsTo_succ, List.length_append]; have := propAt_le (n := n) (dur := dur) (ce := ce) (now := now) (again := again) (p := p) (l := l) k; omega
end
theorem sus_snoc {S : List Int} {k : Nat} {s ce : Int} (h : S[k]? = some s) (j : Nat) : susB (S.take (k + 1)) ce j = ((susB (S.take k) ce j) || (s == (j : Int) && !((j : Int) == ce))) := by
  rw [susB, susB, take_snoc h, List.any_append]
  simp only [List.any_cons, List.any_nil, Bool.or_false]
  cases (S.take k).any (fun s => s == (j : Int)) <;> cases (s == (j : Int)) <;> cases ((j : Int) == ce) <;> rfl
theorem bcl_same {n : Nat} {f g : Nat → Bool} (h : ∀ j, j < n → f j = g j) : bcl n f = bcl n g := by
  rw [bcl, bcl]
  refine List.map_congr_left fun j hj => ?_
  rw [h j (by simpa using hj)]
theorem bcl_set {n i : Nat} {f g : Nat → Bool} (hi : i < n) (hg : g i = true) (h : ∀ j, j < n → j ≠ i → f j = g j) : (bcl n f).set i (.bool true) = bcl n g := by
  refine List.ext_getElem? fun j => ?_
  rw [List.getElem?_set]
  by_cases hj : i = j
  · subst hj
    rw [if_pos rfl, if_pos (by rw [bcl_len]; exact hi), bcl_get g hi, hg]
  · rw [if_neg hj]
    by_cases hjn : j < n
    · rw [bcl_get f hjn, bcl_get g hjn, h j hjn (fun e => hj e.symm)]
    · rw [List.getElem?_eq_none (by rw [bcl_len]; omega), List.getElem?_eq_none (by rw [bcl_len]; omega)]

def okAsk (cen ce now : Int) : Bool := inB ce cen && decide (0 ≤ now) && decide (now ≤ 1099511627776)
/-- the commands that a centre proposes -/
def props (cen dur ce now again : Int) (S : List Int) (l : List St) : List (Int × Int × Int) :=
  if okAsk cen ce now = true then propsTo l.length dur ce now again (susB S ce) l l.length else []
def PrsPost (w : World) (mb tb sb : Nat) (A : Option Addr) (cp : Nat) (c : CF) (l : List St) (ce : Int) (L : List (Int × Int × Int)) (e : Ending) (w' : World) : Prop :=
  ∃ B d, e = .returned (.slice B L.length d) ∧ Sl w' (· < w.heap.size) 19 B L.length (cmds ce L) ∧ DM w' mb tb sb A cp c l ∧ Keep (· = sb) w w'

section
variable (w : World) (mb tb sb : Nat) (A : Option Addr) (cp : Nat) (c : CF) (l : List St) (hD : DM w mb tb sb A cp c l)
include hD
set_option maxRecDepth 100000 in
set_option maxHeartbeats 8000000 in
theorem proposals_any (ce now again : Int) (a1 : again ≤ 9223372036854775807) (Q : Option Addr) (cq : Nat) (S : List Int) (hS : Sl w (fun i => i = sb) 1 Q S.length (icellsC S)) (hSn : S.length ≤ 1000) :
    Calls Try.prog 13 #[.pointer (some ⟨mb, 0, none⟩), .int .i64 ce, .slice Q S.length cq, .int .i64 now, .int .i64 again] w
      (PrsPost w mb tb sb A cp c l ce (props c.cen c.h3 ce now again S l)) := by
  have HIC := hid (fun W (h : DM W mb tb sb A cp c l) k => isCentre_any W mb tb sb A cp c l h k)
  have hK0 : Keep (· = sb) w w := Keep.refl _ _
  unfold props
  cases hok : okAsk c.cen ce now
  · rw [if_neg (by simp)]
    have hfin : PrsPost w mb tb sb A cp c l ce [] (.returned (.slice none 0 0)) w := ⟨none, 0, rfl, Sl.nil _ _ _ _, hD, Keep.refl _ _⟩
    have HF := hid hfin
    have h3 : inB ce c.cen = false ∨ (inB ce c.cen = true ∧ now < 0) ∨ (inB ce c.cen = true ∧ 0 ≤ now ∧ 1099511627776 < now) := by
      rw [okAsk] at hok
      cases h : inB ce c.cen
      · exact .inl rfl
      · rw [h] at hok
        by_cases h1 : now < 0
        · exact .inr (.inl ⟨rfl, h1⟩)
        · exact .inr (.inr ⟨rfl, by omega, by simp [show 0 ≤ now by omega] at hok; omega⟩)
    have HD := hid hD
    clear hD hok hfin hS a1
    generalize c.cen = cen at *
    rcases h3 with h | ⟨h, h1⟩ | ⟨h, h1, h2⟩
    all_goals
      go_enter Try.func13, Try.ntmps13
      go_wp2_with (go_at_call 35; (with_reducible refine (HIC.out w HD.out ce).mono ?_); rintro e w1 ⟨rfl, rfl⟩; rw [h])
      go_ret
      exact HF.out
  · rw [if_pos rfl]
    have hok2 := hok
    simp only [okAsk, Bool.and_eq_true, decide_eq_true_eq] at hok2
    obtain ⟨⟨hic, n0⟩, n1⟩ := hok2
    obtain ⟨ce0, ce1⟩ := inB_in hic
    have h9 := hD.ok.hi
    have hlo := hD.ok.lo
    have hlen := hD.ok.len
    have hsb := hD.tab.row.lt
    have HPR := hid (fun W (h : DM W mb tb sb A cp c l) p Q cq hp d s hs => proposal_any W mb tb sb A cp c l h p Q cq hp d s hs ce now again n0 n1 a1)
    have HLA := hid (fun W (h : DM W mb tb sb A cp c l) d => last_any W tb sb l h.tab d)
    have t0 : w.cell? ⟨mb, 0, none⟩ = some (.int .i64 c.cen) := hD.top.at_ 0
    rw [← hlen] at t0
    have HT0 := hid (fun W (hk : Keep (· = sb) w W) => (hD.top.keep hk hD.ne.1).at_ 0)
    have HT3 := hid (fun W (h : DM W mb tb sb A cp c l) => h.top.at_ 3)
    have HIN := hid (fun k => (show inB k c.cen = inB k l.length by rw [hlen]))
    rw [← hlen] at h9 hlo ce1 hic HT0
    have HD := hid hD
    have HS := hid hS
    have hmk := fun W => EBo.make .i64 .i64 l.length l.length (by omega) (by omega) (by omega) (by omega) W
    clear hD hS hlen hok
    go_enter Try.func13, Try.ntmps13
    go_wp2_with (go_at_call 35; (with_reducible refine (HIC.out w HD.out ce).mono ?_); rintro e w1 ⟨rfl, rfl⟩; rw [HIN.out, hic])
    go_loopw [39] (fun i wr => ∃ k : Nat, k ≤ S.length ∧ i = .int .i64 k ∧ Hid (Blk wr w.heap.size 4 (bcl l.length (susB (S.take k) ce)).toArray ∧ Same w wr)) (fun i _ => S.length - (intOf i).toNat)
    case atStart =>
      refine ⟨0, by omega, rfl, hid ⟨?_, (Keep.refl _ _).alloc _⟩⟩
      have := Blk.made w 4 (madeCells #[.bool false] l.length)
      rw [show (bcl l.length (susB (S.take 0) ce)).toArray = madeCells #[.bool false] l.length from by
        rw [← Array.toList_inj, toList_madeCells_one]
        refine List.ext_getElem? fun j => ?_
        by_cases hj : j < l.length
        · rw [bcl_get _ hj]; simp [susB, hj]
        · rw [List.getElem?_eq_none (by simp [bcl_len]; omega), List.getElem?_eq_none (by simp; omega)]]
      exact this
    case round =>
      obtain ⟨k, hk, rfl, HI⟩ := hrel
      by_cases hlt : k < S.length
      · obtain ⟨s, hs⟩ := get_some hlt
        obtain ⟨b, off, rfl, hb, q0⟩ := ints_at ((HS.out).same HI.out.2) hs
        have HD2 := hid (HD.out.same HI.out.2)
        have HSN := hid (fun j => sus_snoc (ce := ce) hs j)
        have hk1 : (k : Int) < (S.length : Int) := by omega
        clear hs
        by_cases g1 : inB s l.length = true
        · obtain ⟨s0, s1⟩ := inB_in g1
          obtain ⟨i, rfl⟩ := Int.eq_ofNat_of_zero_le s0
          by_cases g2 : (i : Int) = ce
          · have g3 : ((i : Int) != ce) = false := by simp [g2]
            have HB2 : Hid (bcl l.length (susB (S.take (k + 1)) ce) = bcl l.length (susB (S.take k) ce)) := hid (bcl_same fun j _ => by
              rw [HSN.out]
              by_cases hj : (i : Int) = (j : Int)
              · rw [hj] at g2; simp [g2]
              · simp [hj])
            clear g2
            go_wp2_with (go_at_call 35; (with_reducible refine (HIC.out wr HD2.out _).mono ?_); rintro e w1 ⟨rfl, rfl⟩; rw [HIN.out, g1])
            go_roundw
            case rel => exact ⟨k + 1, by omega, by go_num, hid ⟨by rw [HB2.out]; exact HI.out.1, HI.out.2⟩⟩
            case measure => simp [intOf]; omega
          · have g3 : ((i : Int) != ce) = true := by simp [g2]
            have hi : i < l.length := by omega
            have HB2 : Hid ((bcl l.length (susB (S.take k) ce)).set i (.bool true) = bcl l.length (susB (S.take (k + 1)) ce)) := hid (bcl_set hi (by rw [HSN.out]; simp [g2]) fun j _ hj => by
              rw [HSN.out]
              have : ¬ (i : Int) = (j : Int) := by omega
              simp [this])
            have q1 := HI.out.1.at_ i
            rw [List.getElem?_toArray, bcl_get _ hi] at q1
            have q2 := HI.out.1.free i
            clear g2
            go_wp2_with (go_at_call 35; (with_reducible refine (HIC.out wr HD2.out _).mono ?_); rintro e w1 ⟨rfl, rfl⟩; rw [HIN.out, g1])
            go_roundw
            case rel =>
              refine ⟨k + 1, by omega, by go_num, hid ⟨?_, HI.out.2.setCell (fun h => absurd h (by simp)) _⟩⟩
              have := HI.out.1.put i (.bool true)
              rw [List.setIfInBounds_toArray, HB2.out] at this
              exact this
            case measure => simp [intOf]; omega
        · have g1 : inB s l.length = false := by simpa using g1
          have HB2 : Hid (bcl l.length (susB (S.take (k + 1)) ce) = bcl l.length (susB (S.take k) ce)) := hid (bcl_same fun j hj => by
            rw [HSN.out]
            have : ¬ s = (j : Int) := by
              intro e; subst e
              simp [inB] at g1; omega
            simp [this])
          go_wp2_with (go_at_call 35; (with_reducible refine (HIC.out wr HD2.out _).mono ?_); rintro e w1 ⟨rfl, rfl⟩; rw [HIN.out, g1])
          go_roundw
          case rel => exact ⟨k + 1, by omega, by go_num, hid ⟨by rw [HB2.out]; exact HI.out.1, HI.out.2⟩⟩
          case measure => simp [intOf]; omega
      · obtain rfl : k = S.length := by omega
        have hB1 := HI.out.1
        rw [List.take_of_length_le (Nat.le_refl _)] at hB1
        have HB1 := hid hB1
        have HK1 := hid HI.out.2
        clear hB1
        have t1 := HT0.out wr (HK1.out.wide (fun _ _ f => f.elim))
        generalize susB S ce = pf at *
        obtain ⟨wo, hwo⟩ : ∃ x, x = wr := ⟨_, rfl⟩
        subst hwo
        go_wp2_with fail
        clear t0 t1
        go_loopw [14, 59] (fun v i wr => ∃ (k : Nat) (B : Option Addr) (d : Nat), k ≤ l.length ∧ i = .int .i64 k ∧ v = .slice B (propsTo l.length c.h3 ce now again pf l k).length d ∧ Hid (Own wr (w.heap.size + 1) 52 19 (.slice B (propsTo l.length c.h3 ce now again pf l k).length d) (propsTo l.length c.h3 ce now again pf l k).length (cmds ce (propsTo l.length c.h3 ce now again pf l k)) ∧ DM wr mb tb sb A cp c l ∧ Keep (· = sb) w wr ∧ Blk wr w.heap.size 4 (bcl l.length pf).toArray)) (fun _ i _ => l.length - (intOf i).toNat)
        case atStart => exact ⟨0, none, 0, by omega, rfl, rfl, hid ⟨Own.nil _ _ _ _, HD.out.same HK1.out, HK1.out.wide (fun _ _ f => f.elim), HB1.out⟩⟩
        case round =>
          obtain ⟨k, B, d, hk, rfl, rfl, HI⟩ := hrel
          by_cases hlt : k < l.length
          · obtain ⟨s, hs⟩ := get_some hlt
            have hk1 : (k : Int) < (l.length : Int) := by omega
            have hple := propsTo_le (n := l.length) (dur := c.h3) (ce := ce) (now := now) (again := again) (p := pf) (l := l) k
            have HP := hid (HPR.out wr HI.out.2.1 pf (some ⟨w.heap.size, 0, none⟩) l.length (Sl.of_blk HI.out.2.2.2 (by simp [bcl_len]) (by omega)) k s hs)
            have HZ := hid (propAt_zero (n := l.length) (dur := c.h3) (ce := ce) (now := now) (again := again) (p := pf) hs)
            have HN := hid (propAt_some (n := l.length) (dur := c.h3) (ce := ce) (now := now) (again := again) (p := pf) hs)
            have HSC := hid (propsTo_succ (n := l.length) (dur := c.h3) (ce := ce) (now := now) (again := again) (p := pf) (l := l) k)
            have HLS := hid (last_at hs)
            unfold PropPost at HP
            generalize propK l.length c.h3 ce now again pf k s = K at *
            generalize hPT : propsTo l.length c.h3 ce now again pf l k = PT at *
            clear hs hPT
            by_cases g0 : K = 0
            · subst g0
              have HSC2 := hid (HSC.out.trans (by rw [HZ.out rfl, List.append_nil]))
              go_wp2_with fail
              (with_reducible refine HP.out.mono ?_)
              rintro e w1 ⟨rfl, hd1, hk1⟩
              have HD1 := hid hd1
              have HK2 := hid hk1
              clear hd1 hk1
              go_wp2_with fail
              go_roundw
              case rel =>
                refine ⟨k + 1, B, d, by omega, by go_num, by rw [HSC2.out], hid ⟨?_, HD1.out, HI.out.2.2.1.trans HK2.out (fun _ _ e => e), HI.out.2.2.2.keep HK2.out (by omega)⟩⟩
                rw [HSC2.out]
                exact HI.out.1.keep HK2.out (fun i hi _ => by omega)
              case measure => simp [intOf]; omega
            · have g1 : (K != 0) = true := by simp [g0]
              have HSC2 := hid (HSC.out.trans (by rw [HN.out g0]))
              clear g0
              go_wp2_with fail
              (with_reducible refine HP.out.mono ?_)
              rintro e w1 ⟨rfl, hd1, hk1⟩
              have HD1 := hid hd1
              have HK2 := hid hk1
              have t3 := HT3.out w1 hd1
              have hL1 := HLA.out w1 hd1 k
              rw [HLS.out] at hL1
              have HL1 := hid hL1
              clear hd1 hk1 hL1
              go_wp2_with fail
              (with_reducible refine HL1.out.mono ?_)
              rintro e w2 ⟨rfl, hk2⟩
              have HK3 := hid hk2
              have HO2 := hid (((HI.out.1.keep HK2.out (fun i hi _ => by omega)).keep hk2 (fun _ _ _ f => f)))
              have hsz := hid (Nat.le_trans (HI.out.2.2.1.size) (Nat.le_trans HK2.out.size hk2.size))
              clear hk2 t3
              have hw0 := HI.out.2.2.2.lt
              have hsz1 : w.heap.size + 1 ≤ w2.heap.size := by have h1 := HK2.out.size; have h2 := HK3.out.size; omega
              clear hw0
              go_wp2_with (
                at_builtin
                refine ECm.law (.tmp 81) (.tmp 87) (.slice B PT.length d) (some ⟨w2.heap.size, 0, none⟩) 1 1 rfl rfl rfl rfl (w.heap.size + 1) PT.length _ (cmdV K k ce s.e) (HO2.out.keep ((Keep.refl (fun _ => False) w2).alloc _) (fun _ _ _ f => f)) rfl
                  (fun _ => ⟨_, rfl, src_new rfl⟩) (cmdV_one _ _ _ _) (by omega) (by unfold maxLen; omega) (by simp; omega) ?_
                intro A' c' w3 hown hg)
              have HOW := hid hown
              have HG := hid hg
              clear hown hg
              go_roundw
              case rel =>
                have hle : (propsTo l.length c.h3 ce now again pf l (k + 1)).length = PT.length + 1 := by rw [HSC2.out]; simp
                have hS3 : Keep (fun i => w.heap.size + 1 ≤ i) w2 w3 := ((Keep.refl _ w2).alloc _).grown HG.out (fun g e _ => HI.out.1.block g e)
                have hK3 : Keep (· = sb) w w3 := (((HI.out.2.2.1.trans HK2.out (fun _ _ e => e)).trans HK3.out (fun _ _ f => f.elim)).alloc _).grown HG.out (fun g e hl => by have := HI.out.1.block g e; omega)
                have hlt1 := HD.out.tab.top.lt
                have hlt2 := HD.out.tab.row.lt
                refine ⟨k + 1, A', c', by omega, by go_num, by rw [hle], hid ⟨?_, ?_, hK3, ?_⟩⟩
                · rw [HSC2.out, cmds_snoc]
                  simpa using HOW.out
                · exact HD.out.step hK3 ((HD1.out.same HK3.out).tab.keep hS3 (by omega) (by omega)) HD.out.ok
                · exact ((HI.out.2.2.2.keep HK2.out (by omega)).keep HK3.out (fun f => f)).keep hS3 (by omega)
              case measure => simp [intOf]; omega
          · obtain rfl : k = l.length := by omega
            go_wp2_with fail
            go_ret
            exact ⟨B, d, rfl, HI.out.1.sl (fun g hg => by omega), HI.out.2.1, HI.out.2.2.1⟩
end
end Go.Proofs.Ytmkcphhgimlkgaa

import Derived.Test.YtafpcffhkbeloaaDoorLoAa
namespace Go.Proofs.YtafpcffhkbeloaaDoor
open Go.RowKit
/-! ### Both, Set -/
def IntsPost (w : World) (l : List Int) (e : Ending) (w' : World) : Prop := ∃ B d, e = .returned (.slice B l.length d) ∧ Sl w' (· < w.heap.size) 1 B l.length (icells l) ∧ Same w w'
theorem filter_snoc {l : List Int} {k : Nat} {a : Int} {p : Int → Bool} (h : l[k]? = some a) : (l.take (k + 1)).filter p = (l.take k).filter p ++ (if p a = true then [a] else []) := by
  rw [take_snoc' h, List.filter_append]
  cases hp : p a <;> simp [hp]
set_option maxRecDepth 100000 in
set_option maxHeartbeats 4000000 in
theorem both_any (w : World) (Av Bv : Nat → Prop) (A B : Option Addr) (ca cb : Nat) (a b : List Int) (ha : Sl w Av 1 A a.length (icells a)) (hb : Sl w Bv 1 B b.length (icells b)) (hn : a.length ≤ 1000000) (hm : b.length ≤ 1000000) :
    Calls Tryd.prog 39 #[.slice A a.length ca, .slice B b.length cb] w (IntsPost w (bothL a b)) := by
  have HA := hid ha
  have HH := hid (fun W (hk : Same w W) x => has07_any W Bv B cb b (hb.same hk) hm x)
  clear ha hb
  unfold bothL
  go_enter Tryd.func39, Tryd.ntmps39
  go_wp2_with fail
  go_loopw [5, 6] (fun v i wr => ∃ (k : Nat) (D : Option Addr) (d : Nat), k ≤ a.length ∧ i = .int .i64 k ∧ v = .slice D ((a.take k).filter (fun x => b.contains x)).length d ∧ Hid (Own wr w.heap.size 3 1 (.slice D ((a.take k).filter (fun x => b.contains x)).length d) ((a.take k).filter (fun x => b.contains x)).length (icells ((a.take k).filter (fun x => b.contains x))) ∧ Same w wr)) (fun _ i _ => a.length - (RowKit.intOf i).toNat)
  case atStart => exact ⟨0, none, 0, by omega, rfl, rfl, hid ⟨Own.nil _ _ _ _, Keep.refl _ _⟩⟩
  case round =>
    obtain ⟨k, D, d, hk, rfl, rfl, HI⟩ := hrel
    by_cases hlt : k < a.length
    · obtain ⟨x, hx⟩ := get_some hlt
      have hk1 : (k : Int) < (a.length : Int) := by omega
      obtain ⟨b1, o1, rfl, _, q1⟩ := ints_in (HA.out.same HI.out.2) hx
      have hle : ((a.take k).filter (fun x => b.contains x)).length ≤ k := by
        have h1 := List.length_filter_le (fun x => b.contains x) (a.take k)
        rw [List.length_take] at h1; omega
      have HSN := hid (filter_snoc (p := fun x => b.contains x) hx)
      have HHx := hid (HH.out wr HI.out.2 x)
      have hsz := HI.out.2.size
      clear hx
      generalize hF : (a.take k).filter (fun x => b.contains x) = F at *
      clear hF
      cases hc : b.contains x
      · rw [hc] at HSN HHx
        clear hc
        simp only [Bool.false_eq_true, if_false, List.append_nil] at HSN
        go_wp2_with fail
        (with_reducible refine HHx.out.mono ?_)
        rintro e w3 ⟨rfl, rfl⟩
        go_wp2_with fail
        go_roundw
        case rel => exact ⟨k + 1, D, d, by omega, by go_num, by rw [HSN.out], hid (by rw [HSN.out]; exact HI.out)⟩
        case measure => simp [RowKit.intOf]; omega
      · rw [hc] at HSN HHx
        clear hc
        simp only [if_true] at HSN
        go_wp2_with fail
        (with_reducible refine HHx.out.mono ?_)
        rintro e w3 ⟨rfl, rfl⟩
        go_wp2_with (first | (at_builtin; refine EInt.law (.tmp 19) (.tmp 24) (.slice D F.length d) (some ⟨w3.heap.size, 0, none⟩) 1 1 rfl rfl rfl rfl w.heap.size F.length _ [.int .i64 x] (HI.out.1.keep ((Keep.refl (fun _ => False) w3).alloc _) (fun _ _ _ f => f)) rfl (fun _ => ⟨_, rfl, src_new rfl⟩) (by simp [Value.oneCell']) (by omega) (by unfold maxLen; omega) (by simp; omega) ?_; intro A' c' w7 hown hg; have HOW := hid hown; have HG := hid hg; clear hown hg))
        go_roundw
        case rel =>
          refine ⟨k + 1, A', c', by omega, by go_num, by rw [HSN.out]; simp, hid ?_⟩
          rw [HSN.out, icells_snoc]
          refine ⟨by simpa using HOW.out, ?_⟩
          exact (HI.out.2.alloc _).grown HG.out (fun g e hl => by have := HI.out.1.block g e; omega)
        case measure => simp [RowKit.intOf]; omega
    · obtain rfl : k = a.length := by omega
      have hI := HI.out
      rw [List.take_of_length_le (Nat.le_refl _)] at hI ⊢
      have HI2 := hid hI
      clear hI
      go_wp2_with fail
      go_ret
      exact ⟨D, d, rfl, HI2.out.1.sl (fun g hg => by omega), HI2.out.2⟩
end Go.Proofs.YtafpcffhkbeloaaDoor

import Derived.Test.YtkkenfgpmoediaaWireE
namespace Go.Proofs.Ytkkenfgpmoediaa
open Go.RowKit

/-- What a reader's method leaves. -/
def RPost (w : World) (rb : Nat) (Av : Nat → Prop) (s : RS) (v : Value) (e : Ending) (w' : World) : Prop :=
  ∃ A n c, e = .returned v ∧ Rd w' rb Av A n c s ∧ Keep (· = rb) w w'
theorem RPost.of {w w1 : World} {rb : Nat} {Av : Nat → Prop} {s : RS} {v : Value} {e : Ending} {w' : World} (hk : Keep (· = rb) w w1) (h : RPost w1 rb Av s v e w') : RPost w rb Av s v e w' := by
  obtain ⟨A, n, c, h1, h2, h3⟩ := h
  exact ⟨A, n, c, h1, h2, hk.trans h3 (fun _ _ h => h)⟩

section
variable (w : World) (rb : Nat) (Av : Nat → Prop)
set_option maxHeartbeats 1000000 in
theorem fail_any (A : Option Addr) (n c : Nat) (s : RS) (h : Rd w rb Av A n c s) (er : Int) :
    Calls Try.prog 46 #[.pointer (some ⟨rb, 0, none⟩), .int .i64 er] w (RPost w rb Av ⟨[], er⟩ (.tuple #[])) := by
  have c0 := h.top.at_ 0
  have c1 := h.top.at_ 1
  have f0 := h.top.free 0
  have f1 := h.top.free 1
  have H := hid h
  clear h
  go_enter Try.func46, Try.ntmps46
  go_wp2
  go_end0
  refine ⟨none, 0, 0, rfl, ⟨?_, Sl.nil _ _ _ _, Nat.le_refl _, H.out.av⟩, ((Keep.refl _ w).put _ _).put _ _⟩
  have := (H.out.top.put 1 (.int .i64 er)).put 0 (.slice none 0 0)
  simpa using this

set_option maxHeartbeats 1000000 in
theorem next_err (A : Option Addr) (n c : Nat) (s : RS) (h : Rd w rb Av A n c s) (he : ¬ s.err = 0) :
    Calls Try.prog 45 #[.pointer (some ⟨rb, 0, none⟩)] w fun e w' => e = .returned (.tuple #[.int .u8 0, .bool false]) ∧ w = w' := by
  have c1 := h.top.at_ 1
  obtain ⟨l, er⟩ := s
  simp only at he c1
  have he' : (er != 0) = true := by simpa using he
  clear h he
  go_enter Try.func45, Try.ntmps45
  go_wp2
  go_ret2
  exact ⟨rfl, rfl⟩
set_option maxHeartbeats 1000000 in
theorem next_end (A : Option Addr) (n c : Nat) (h : Rd w rb Av A n c ⟨[], 0⟩) :
    Calls Try.prog 45 #[.pointer (some ⟨rb, 0, none⟩)] w (RPost w rb Av ⟨[], 11⟩ (.tuple #[.int .u8 0, .bool false])) := by
  have hn := h.len
  simp at hn
  subst hn
  have c0 := h.top.at_ 0
  have c1 := h.top.at_ 1
  have H := hid h
  clear h
  go_enter Try.func45, Try.ntmps45
  go_wp2_with fail
  refine (fail_any w rb Av A 0 c _ H.out 11).mono ?_
  rintro e w' ⟨A', n', c', rfl, h1, h2⟩
  go_wp2
  go_ret2
  exact ⟨A', n', c', rfl, h1, h2⟩
set_option maxHeartbeats 1000000 in
theorem next_ok (A : Option Addr) (n c : Nat) (x : UInt8) (l : List UInt8) (h : Rd w rb Av A n c ⟨x :: l, 0⟩) :
    Calls Try.prog 45 #[.pointer (some ⟨rb, 0, none⟩)] w (RPost w rb Av ⟨l, 0⟩ (.tuple #[.int .u8 (x.toNat : Int), .bool true])) := by
  have hn : l.length + 1 = n := by have := h.len; simpa using this
  have c0 := h.top.at_ 0
  have c1 := h.top.at_ 1
  have f0 := h.top.free 0
  have hcap := h.cap
  have hrb := h.top.lt
  obtain ⟨b, off, rfl, hb, ha, hr⟩ := h.sl.at_ (by omega)
  have hx : w.cell? ⟨b, off, none⟩ = some (.int .u8 (x.toNat : Int)) := hr 0 _ rfl
  have hbr : ¬ b = rb := fun e => ha (.inr e)
  have H := hid h
  have HR := hid hr
  have HA := hid ha
  have hfin : ∀ (A' : Option Addr) (c' : Nat), (0 < l.length → A' = some ⟨b, off + 1, none⟩) → n - 1 ≤ c' → RPost w rb Av ⟨l, 0⟩ (.tuple #[.int .u8 (x.toNat : Int), .bool true]) (.returned (.tuple #[.int .u8 (x.toNat : Int), .bool true])) (w.setCell ⟨rb, 0, none⟩ (.slice A' (n - 1) c')) := by
    intro A' c' hA hc
    have hk : Keep (· = rb) w (w.setCell ⟨rb, 0, none⟩ (.slice A' (n - 1) c')) := (Keep.refl _ w).put _ _
    refine ⟨A', n - 1, c', rfl, ⟨?_, ?_, hc, H.out.av⟩, hk⟩
    · have := H.out.top.put 0 (.slice A' (n - 1) c')
      simpa using this
    · refine ⟨by simp [bcells]; omega, fun h0 => ⟨b, off + 1, hA (by omega), by simpa using hb, HA.out, ?_⟩⟩
      have := (HR.out.drop 1)
      exact Row.keep (by simpa [bcells] using this) hk hb hbr
  have HF := hid hfin
  clear h hr ha hfin
  by_cases hc : c = 1
  · subst hc
    obtain rfl : n = 1 := by omega
    go_enter Try.func45, Try.ntmps45
    go_wp2
    go_ret2
    exact HF.out _ _ (by omega) (by omega)
  · have hc1 : ¬ (c : Int) = 1 := by omega
    go_enter Try.func45, Try.ntmps45
    go_wp2
    go_ret2
    exact HF.out _ _ (fun _ => rfl) (by omega)
end
end Go.Proofs.Ytkkenfgpmoediaa

/-
  No cell of these rows narrows 'for every input' (looked for: loops, veiled, ifaces, maps, wideKeys, modest, calm, conditions, laid).
  DERIVED. THE GIVEN ROWS OF THIS SEAT. 6 by the template 'for every input the law returns true; each argument reads behind the call as it read before'; 0 by the template 'total and deterministic' (their statements: YtohgclbgjdpggaaTotals.lean).
  GIVEN WITH THE SEED: the statements are not yours to turn. If you find one false, say at which input.
  Laid BY PROGRAM, IN A SANDBOX (cutbox-rows.mjs): the forced cells as the released guide's own fill.sh prints them over the translation 9a1c088ddcc47536… (all of the seat's roots in one cut). By AI agents, Wed Nov 11 2026. No macro, syntax, notation, axiom, sorry.
-/
import Derived.Test.YtohgclbgjdpggaaChecked
import GoSem.Claim
import GoSem.ClaimJoined
import GoSem.ClaimMapViews
import Derived.JoinedTies
import Derived.KernelRfl
namespace Go.Proofs.Ytohgclbgjdpggaa
/- THE CELL 'sum', in the pinned program and in every row, IS THE sha256 OF THE DUMP (.gsa) THAT YtohgclbgjdpggaaProg.lean LOADS. Nothing in Lean hashes anything: it is a label: what it is worth is what the hold of that sum in a sandbox is worth. -/
noncomputable def Try.pinned : Pinned := { name := "ytohgclbgjdpggaa", sum := "9a1c088ddcc47536cc1ffbba415bfd7583144d6db5fd7e40709f928f257134d4", checked := Try.checked }
namespace Rows
def none {H : Type} : Left H := { results := [], args := [] }

/-- 'samaritanlaw05.WireReader': WHATEVER THE INPUT: true; the input reads as it did. -/
def wireReaderSpec : ChangeSpec := { name := "wireReader", fn := fun _ => fun
  | [d1, d2] => { results := [.lit (.bool true)], args := [d1, d2] }
  | _ => none }
def wireReaderRow : OpenClaim := { program := "ytohgclbgjdpggaa", sum := "9a1c088ddcc47536cc1ffbba415bfd7583144d6db5fd7e40709f928f257134d4", func := "samaritan/samaritanlaw05.WireReader", spec := "wireReader", apart := false }
def WireReaderSaid : Prop := wireReaderRow.holds Try.pinned (OpenSpec.ofChange wireReaderSpec)

/-- ITS FALSE NEIGHBOUR: 'it returns false'. Refute it at one input. -/
def wireReaderWrong : ChangeSpec := { name := "wireReader", fn := fun _ => fun
  | [d1, d2] => { results := [.lit (.bool false)], args := [d1, d2] }
  | _ => none }
def WireReaderWrongFalsely : Prop := wireReaderRow.holds Try.pinned (OpenSpec.ofChange wireReaderWrong)

/-- 'samaritanlaw05.WireStickyError': WHATEVER THE INPUT: true; the input reads as it did. -/
def wireStickyErrorSpec : ChangeSpec := { name := "wireStickyError", fn := fun _ => fun
  | [d1, d2] => { results := [.lit (.bool true)], args := [d1, d2] }
  | _ => none }
def wireStickyErrorRow : OpenClaim := { program := "ytohgclbgjdpggaa", sum := "9a1c088ddcc47536cc1ffbba415bfd7583144d6db5fd7e40709f928f257134d4", func := "samaritan/samaritanlaw05.WireStickyError", spec := "wireStickyError", apart := false }
def WireStickyErrorSaid : Prop := wireStickyErrorRow.holds Try.pinned (OpenSpec.ofChange wireStickyErrorSpec)

/-- ITS FALSE NEIGHBOUR: 'it returns false'. Refute it at one input. -/
def wireStickyErrorWrong : ChangeSpec := { name := "wireStickyError", fn := fun _ => fun
  | [d1, d2] => { results := [.lit (.bool false)], args := [d1, d2] }
  | _ => none }
def WireStickyErrorWrongFalsely : Prop := wireStickyErrorRow.holds Try.pinned (OpenSpec.ofChange wireStickyErrorWrong)

/-- 'samaritanlaw05.WireRoundTrip': WHATEVER THE INPUT: true; the input reads as it did. -/
def wireRoundTripSpec : ChangeSpec := { name := "wireRoundTrip", fn := fun _ => fun
  | [d1, d2] => { results := [.lit (.bool true)], args := [d1, d2] }
  | _ => none }
def wireRoundTripRow : OpenClaim := { program := "ytohgclbgjdpggaa", sum := "9a1c088ddcc47536cc1ffbba415bfd7583144d6db5fd7e40709f928f257134d4", func := "samaritan/samaritanlaw05.WireRoundTrip", spec := "wireRoundTrip", apart := false }
def WireRoundTripSaid : Prop := wireRoundTripRow.holds Try.pinned (OpenSpec.ofChange wireRoundTripSpec)

/-- ITS FALSE NEIGHBOUR: 'it returns false'. Refute it at one input. -/
def wireRoundTripWrong : ChangeSpec := { name := "wireRoundTrip", fn := fun _ => fun
  | [d1, d2] => { results := [.lit (.bool false)], args := [d1, d2] }
  | _ => none }
def WireRoundTripWrongFalsely : Prop := wireRoundTripRow.holds Try.pinned (OpenSpec.ofChange wireRoundTripWrong)

/-- 'samaritanlaw05.WireTruncated': WHATEVER THE INPUT: true; the input reads as it did. -/
def wireTruncatedSpec : ChangeSpec := { name := "wireTruncated", fn := fun _ => fun
  | [d1, d2] => { results := [.lit (.bool true)], args := [d1, d2] }
  | _ => none }
def wireTruncatedRow : OpenClaim := { program := "ytohgclbgjdpggaa", sum := "9a1c088ddcc47536cc1ffbba415bfd7583144d6db5fd7e40709f928f257134d4", func := "samaritan/samaritanlaw05.WireTruncated", spec := "wireTruncated", apart := false }
def WireTruncatedSaid : Prop := wireTruncatedRow.holds Try.pinned (OpenSpec.ofChange wireTruncatedSpec)

/-- ITS FALSE NEIGHBOUR: 'it returns false'. Refute it at one input. -/
def wireTruncatedWrong : ChangeSpec := { name := "wireTruncated", fn := fun _ => fun
  | [d1, d2] => { results := [.lit (.bool false)], args := [d1, d2] }
  | _ => none }
def WireTruncatedWrongFalsely : Prop := wireTruncatedRow.holds Try.pinned (OpenSpec.ofChange wireTruncatedWrong)

/-- 'samaritanlaw05.WireCanonical': WHATEVER THE INPUT: true; the input reads as it did. -/
def wireCanonicalSpec : ChangeSpec := { name := "wireCanonical", fn := fun _ => fun
  | [d1, d2] => { results := [.lit (.bool true)], args := [d1, d2] }
  | _ => none }
def wireCanonicalRow : OpenClaim := { program := "ytohgclbgjdpggaa", sum := "9a1c088ddcc47536cc1ffbba415bfd7583144d6db5fd7e40709f928f257134d4", func := "samaritan/samaritanlaw05.WireCanonical", spec := "wireCanonical", apart := false }
def WireCanonicalSaid : Prop := wireCanonicalRow.holds Try.pinned (OpenSpec.ofChange wireCanonicalSpec)

/-- ITS FALSE NEIGHBOUR: 'it returns false'. Refute it at one input. -/
def wireCanonicalWrong : ChangeSpec := { name := "wireCanonical", fn := fun _ => fun
  | [d1, d2] => { results := [.lit (.bool false)], args := [d1, d2] }
  | _ => none }
def WireCanonicalWrongFalsely : Prop := wireCanonicalRow.holds Try.pinned (OpenSpec.ofChange wireCanonicalWrong)

/-- 'samaritanlaw05.WireInjective': WHATEVER THE INPUT: true; the input reads as it did. -/
def wireInjectiveSpec : ChangeSpec := { name := "wireInjective", fn := fun _ => fun
  | [d1, d2] => { results := [.lit (.bool true)], args := [d1, d2] }
  | _ => none }
def wireInjectiveRow : OpenClaim := { program := "ytohgclbgjdpggaa", sum := "9a1c088ddcc47536cc1ffbba415bfd7583144d6db5fd7e40709f928f257134d4", func := "samaritan/samaritanlaw05.WireInjective", spec := "wireInjective", apart := false }
def WireInjectiveSaid : Prop := wireInjectiveRow.holds Try.pinned (OpenSpec.ofChange wireInjectiveSpec)

/-- ITS FALSE NEIGHBOUR: 'it returns false'. Refute it at one input. -/
def wireInjectiveWrong : ChangeSpec := { name := "wireInjective", fn := fun _ => fun
  | [d1, d2] => { results := [.lit (.bool false)], args := [d1, d2] }
  | _ => none }
def WireInjectiveWrongFalsely : Prop := wireInjectiveRow.holds Try.pinned (OpenSpec.ofChange wireInjectiveWrong)

/- THE SECOND FORM. 'bulk': how many values and letters a reading holds, each counted each time it is reached (what is shared counts as often as it is met; a slice's spare places count too). A statement '..UptoSaid' is the law's where the arguments, and the package variables that the reading takes, are together of bulk at most 1048576: NARROWER than '..Said'. Prove '..Said' where nothing that the law and all that it calls make is longer than what came in: it says more and counts as full. Else prove '..UptoSaid'. A law counts once. -/
mutual
def uptoBulk {H : Type} : DataW H → Nat
  | .lit (.string bytes) => bytes.length + 1
  | .lit _ => 1
  | .nil => 1
  | .ptr d => uptoBulk d + 1
  | .slice elems spare => uptoBulkAll elems + uptoBulkAll spare + 1
  | .agg parts => uptoBulkAll parts + 1
  | .iface _ d => uptoBulk d + 1
  | .map entries => uptoBulkEntries entries + 1
  | .held _ => 1
def uptoBulkAll {H : Type} : List (DataW H) → Nat
  | [] => 0
  | d :: r => uptoBulk d + uptoBulkAll r
def uptoBulkEntries {H : Type} : List (Lit × DataW H) → Nat
  | [] => 0
  | x :: r => uptoBulkEntry x + uptoBulkEntries r
def uptoBulkEntry {H : Type} : Lit × DataW H → Nat
  | (.string bytes, d) => bytes.length + uptoBulk d + 1
  | (_, d) => uptoBulk d + 1
 end
def uptoSmall : (H : Type) → List (DataW H) → Bool := fun _ ds => decide (uptoBulkAll ds ≤ 1048576)
def OpenSpec.upto (s : _root_.Go.ChangeSpec) : _root_.Go.OpenSpec := { _root_.Go.OpenSpec.ofChange s with cond := some uptoSmall }

/-- 'samaritanlaw05.WireReader', WHERE WHAT IT READS IS OF BULK AT MOST 1048576: true; the input reads as it did. -/
def wireReaderUptoRow : OpenClaim := { program := "ytohgclbgjdpggaa", sum := "9a1c088ddcc47536cc1ffbba415bfd7583144d6db5fd7e40709f928f257134d4", func := "samaritan/samaritanlaw05.WireReader", spec := "wireReader", apart := false, narrowed := true }
def WireReaderUptoSaid : Prop := wireReaderUptoRow.holds Try.pinned (OpenSpec.upto wireReaderSpec)

/-- 'samaritanlaw05.WireStickyError', WHERE WHAT IT READS IS OF BULK AT MOST 1048576: true; the input reads as it did. -/
def wireStickyErrorUptoRow : OpenClaim := { program := "ytohgclbgjdpggaa", sum := "9a1c088ddcc47536cc1ffbba415bfd7583144d6db5fd7e40709f928f257134d4", func := "samaritan/samaritanlaw05.WireStickyError", spec := "wireStickyError", apart := false, narrowed := true }
def WireStickyErrorUptoSaid : Prop := wireStickyErrorUptoRow.holds Try.pinned (OpenSpec.upto wireStickyErrorSpec)

/-- 'samaritanlaw05.WireRoundTrip', WHERE WHAT IT READS IS OF BULK AT MOST 1048576: true; the input reads as it did. -/
def wireRoundTripUptoRow : OpenClaim := { program := "ytohgclbgjdpggaa", sum := "9a1c088ddcc47536cc1ffbba415bfd7583144d6db5fd7e40709f928f257134d4", func := "samaritan/samaritanlaw05.WireRoundTrip", spec := "wireRoundTrip", apart := false, narrowed := true }
def WireRoundTripUptoSaid : Prop := wireRoundTripUptoRow.holds Try.pinned (OpenSpec.upto wireRoundTripSpec)

/-- 'samaritanlaw05.WireTruncated', WHERE WHAT IT READS IS OF BULK AT MOST 1048576: true; the input reads as it did. -/
def wireTruncatedUptoRow : OpenClaim := { program := "ytohgclbgjdpggaa", sum := "9a1c088ddcc47536cc1ffbba415bfd7583144d6db5fd7e40709f928f257134d4", func := "samaritan/samaritanlaw05.WireTruncated", spec := "wireTruncated", apart := false, narrowed := true }
def WireTruncatedUptoSaid : Prop := wireTruncatedUptoRow.holds Try.pinned (OpenSpec.upto wireTruncatedSpec)

/-- 'samaritanlaw05.WireCanonical', WHERE WHAT IT READS IS OF BULK AT MOST 1048576: true; the input reads as it did. -/
def wireCanonicalUptoRow : OpenClaim := { program := "ytohgclbgjdpggaa", sum := "9a1c088ddcc47536cc1ffbba415bfd7583144d6db5fd7e40709f928f257134d4", func := "samaritan/samaritanlaw05.WireCanonical", spec := "wireCanonical", apart := false, narrowed := true }
def WireCanonicalUptoSaid : Prop := wireCanonicalUptoRow.holds Try.pinned (OpenSpec.upto wireCanonicalSpec)

/-- 'samaritanlaw05.WireInjective', WHERE WHAT IT READS IS OF BULK AT MOST 1048576: true; the input reads as it did. -/
def wireInjectiveUptoRow : OpenClaim := { program := "ytohgclbgjdpggaa", sum := "9a1c088ddcc47536cc1ffbba415bfd7583144d6db5fd7e40709f928f257134d4", func := "samaritan/samaritanlaw05.WireInjective", spec := "wireInjective", apart := false, narrowed := true }
def WireInjectiveUptoSaid : Prop := wireInjectiveUptoRow.holds Try.pinned (OpenSpec.upto wireInjectiveSpec)

end Rows
end Go.Proofs.Ytohgclbgjdpggaa

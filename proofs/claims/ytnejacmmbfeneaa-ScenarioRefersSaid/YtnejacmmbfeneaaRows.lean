/-
  No cell of these rows narrows 'for every input' (looked for: loops, veiled, ifaces, maps, wideKeys, modest, calm, conditions, laid).
  DERIVED. THE GIVEN ROWS OF THIS SEAT. 6 by the template 'for every input the law returns true; each argument reads behind the call as it read before'; 0 by the template 'total and deterministic' (their statements: YtnejacmmbfeneaaTotals.lean).
  GIVEN WITH THE SEED: the statements are not yours to turn. If you find one false, say at which input.
  Laid BY PROGRAM, IN A SANDBOX (cutbox-rows.mjs): the forced cells as the released guide's own fill.sh prints them over the translation b192432a944f87ab… (all of the seat's roots in one cut). By AI agents, Wed Nov 11 2026. No macro, syntax, notation, axiom, sorry.
-/
import Derived.Test.YtnejacmmbfeneaaChecked
import GoSem.Claim
import GoSem.ClaimJoined
import GoSem.ClaimMapViews
import Derived.JoinedTies
import Derived.KernelRfl
namespace Go.Proofs.Ytnejacmmbfeneaa
/- THE CELL 'sum', in the pinned program and in every row, IS THE sha256 OF THE DUMP (.gsa) THAT YtnejacmmbfeneaaProg.lean LOADS. Nothing in Lean hashes anything: it is a label: what it is worth is what the hold of that sum in a sandbox is worth. -/
noncomputable def Try.pinned : Pinned := { name := "ytnejacmmbfeneaa", sum := "b192432a944f87aba2d72fd0b4f37cbba2a85a42ad3b6247e4c4b53d35028572", checked := Try.checked }
namespace Rows
def none {H : Type} : Left H := { results := [], args := [] }

/-- 'samaritanlaw50.ScenarioPick': WHATEVER THE INPUT: true; the input reads as it did. -/
def scenarioPickSpec : ChangeSpec := { name := "scenarioPick", fn := fun _ => fun
  | [d1, d2, d3] => { results := [.lit (.bool true)], args := [d1, d2, d3] }
  | _ => none }
def scenarioPickRow : OpenClaim := { program := "ytnejacmmbfeneaa", sum := "b192432a944f87aba2d72fd0b4f37cbba2a85a42ad3b6247e4c4b53d35028572", func := "samaritan/samaritanlaw50.ScenarioPick", spec := "scenarioPick", apart := false }
def ScenarioPickSaid : Prop := scenarioPickRow.holds Try.pinned (OpenSpec.ofChange scenarioPickSpec)

/-- ITS FALSE NEIGHBOUR: 'it returns false'. Refute it at one input. -/
def scenarioPickWrong : ChangeSpec := { name := "scenarioPick", fn := fun _ => fun
  | [d1, d2, d3] => { results := [.lit (.bool false)], args := [d1, d2, d3] }
  | _ => none }
def ScenarioPickWrongFalsely : Prop := scenarioPickRow.holds Try.pinned (OpenSpec.ofChange scenarioPickWrong)

/-- 'samaritanlaw50.ScenarioRand': WHATEVER THE INPUT: true; the input reads as it did. -/
def scenarioRandSpec : ChangeSpec := { name := "scenarioRand", fn := fun _ => fun
  | [d1, d2] => { results := [.lit (.bool true)], args := [d1, d2] }
  | _ => none }
def scenarioRandRow : OpenClaim := { program := "ytnejacmmbfeneaa", sum := "b192432a944f87aba2d72fd0b4f37cbba2a85a42ad3b6247e4c4b53d35028572", func := "samaritan/samaritanlaw50.ScenarioRand", spec := "scenarioRand", apart := false }
def ScenarioRandSaid : Prop := scenarioRandRow.holds Try.pinned (OpenSpec.ofChange scenarioRandSpec)

/-- ITS FALSE NEIGHBOUR: 'it returns false'. Refute it at one input. -/
def scenarioRandWrong : ChangeSpec := { name := "scenarioRand", fn := fun _ => fun
  | [d1, d2] => { results := [.lit (.bool false)], args := [d1, d2] }
  | _ => none }
def ScenarioRandWrongFalsely : Prop := scenarioRandRow.holds Try.pinned (OpenSpec.ofChange scenarioRandWrong)

/-- 'samaritanlaw50.ScenarioQuiesce': WHATEVER THE INPUT: true; the input reads as it did. -/
def scenarioQuiesceSpec : ChangeSpec := { name := "scenarioQuiesce", fn := fun _ => fun
  | [d1, d2] => { results := [.lit (.bool true)], args := [d1, d2] }
  | _ => none }
def scenarioQuiesceRow : OpenClaim := { program := "ytnejacmmbfeneaa", sum := "b192432a944f87aba2d72fd0b4f37cbba2a85a42ad3b6247e4c4b53d35028572", func := "samaritan/samaritanlaw50.ScenarioQuiesce", spec := "scenarioQuiesce", unfollowed := true, recurses := true, apart := false }
def ScenarioQuiesceSaid : Prop := scenarioQuiesceRow.holds Try.pinned (OpenSpec.ofChange scenarioQuiesceSpec)

/-- ITS FALSE NEIGHBOUR: 'it returns false'. Refute it at one input. -/
def scenarioQuiesceWrong : ChangeSpec := { name := "scenarioQuiesce", fn := fun _ => fun
  | [d1, d2] => { results := [.lit (.bool false)], args := [d1, d2] }
  | _ => none }
def ScenarioQuiesceWrongFalsely : Prop := scenarioQuiesceRow.holds Try.pinned (OpenSpec.ofChange scenarioQuiesceWrong)

/-- 'samaritanlaw50.ScenarioGenerate': WHATEVER THE INPUT: true; the input reads as it did. -/
def scenarioGenerateSpec : ChangeSpec := { name := "scenarioGenerate", fn := fun _ => fun
  | [d1, d2, d3] => { results := [.lit (.bool true)], args := [d1, d2, d3] }
  | _ => none }
def scenarioGenerateRow : OpenClaim := { program := "ytnejacmmbfeneaa", sum := "b192432a944f87aba2d72fd0b4f37cbba2a85a42ad3b6247e4c4b53d35028572", func := "samaritan/samaritanlaw50.ScenarioGenerate", spec := "scenarioGenerate", unfollowed := true, recurses := true, apart := false }
def ScenarioGenerateSaid : Prop := scenarioGenerateRow.holds Try.pinned (OpenSpec.ofChange scenarioGenerateSpec)

/-- ITS FALSE NEIGHBOUR: 'it returns false'. Refute it at one input. -/
def scenarioGenerateWrong : ChangeSpec := { name := "scenarioGenerate", fn := fun _ => fun
  | [d1, d2, d3] => { results := [.lit (.bool false)], args := [d1, d2, d3] }
  | _ => none }
def ScenarioGenerateWrongFalsely : Prop := scenarioGenerateRow.holds Try.pinned (OpenSpec.ofChange scenarioGenerateWrong)

/-- 'samaritanlaw50.ScenarioPrefix': WHATEVER THE INPUT: true; the input reads as it did. -/
def scenarioPrefixSpec : ChangeSpec := { name := "scenarioPrefix", fn := fun _ => fun
  | [d1, d2, d3] => { results := [.lit (.bool true)], args := [d1, d2, d3] }
  | _ => none }
def scenarioPrefixRow : OpenClaim := { program := "ytnejacmmbfeneaa", sum := "b192432a944f87aba2d72fd0b4f37cbba2a85a42ad3b6247e4c4b53d35028572", func := "samaritan/samaritanlaw50.ScenarioPrefix", spec := "scenarioPrefix", unfollowed := true, recurses := true, apart := false }
def ScenarioPrefixSaid : Prop := scenarioPrefixRow.holds Try.pinned (OpenSpec.ofChange scenarioPrefixSpec)

/-- ITS FALSE NEIGHBOUR: 'it returns false'. Refute it at one input. -/
def scenarioPrefixWrong : ChangeSpec := { name := "scenarioPrefix", fn := fun _ => fun
  | [d1, d2, d3] => { results := [.lit (.bool false)], args := [d1, d2, d3] }
  | _ => none }
def ScenarioPrefixWrongFalsely : Prop := scenarioPrefixRow.holds Try.pinned (OpenSpec.ofChange scenarioPrefixWrong)

/-- 'samaritanlaw50.ScenarioRefers': WHATEVER THE INPUT: true; the input reads as it did. -/
def scenarioRefersSpec : ChangeSpec := { name := "scenarioRefers", fn := fun _ => fun
  | [d1, d2, d3] => { results := [.lit (.bool true)], args := [d1, d2, d3] }
  | _ => none }
def scenarioRefersRow : OpenClaim := { program := "ytnejacmmbfeneaa", sum := "b192432a944f87aba2d72fd0b4f37cbba2a85a42ad3b6247e4c4b53d35028572", func := "samaritan/samaritanlaw50.ScenarioRefers", spec := "scenarioRefers", unfollowed := true, recurses := true, apart := false }
def ScenarioRefersSaid : Prop := scenarioRefersRow.holds Try.pinned (OpenSpec.ofChange scenarioRefersSpec)

/-- ITS FALSE NEIGHBOUR: 'it returns false'. Refute it at one input. -/
def scenarioRefersWrong : ChangeSpec := { name := "scenarioRefers", fn := fun _ => fun
  | [d1, d2, d3] => { results := [.lit (.bool false)], args := [d1, d2, d3] }
  | _ => none }
def ScenarioRefersWrongFalsely : Prop := scenarioRefersRow.holds Try.pinned (OpenSpec.ofChange scenarioRefersWrong)

/- THE SECOND FORM. 'bulk': how many values and letters a reading holds, each counted each time it is reached (what is shared counts as often as it is met; a slice's spare places count too). A statement '..UptoSaid' is the law's where the arguments, and the package variables that the reading takes, are together of bulk at most 1048576: NARROWER than '..Said'. Prove '..Said' where nothing that the law and all that it calls make is longer than what came in: it says more and counts as full. Else prove '..UptoSaid'. A law counts once. -/
mutual
def uptoBulk {H : Type} : DataW H → Nat
  | .lit (.string bytes) => bytes.length + 1
  | .lit _ => 1
  | .nil => 1
  | .ptr d => uptoBulk d + 1
  | .slice elems spare => uptoBulkAll elems + uptoBulkAll spare + 1
  | .agg parts => uptoBulkAll parts + 1
  | .iface _ d => uptoBulk d + 1
  | .map entries => uptoBulkEntries entries + 1
  | .held _ => 1
def uptoBulkAll {H : Type} : List (DataW H) → Nat
  | [] => 0
  | d :: r => uptoBulk d + uptoBulkAll r
def uptoBulkEntries {H : Type} : List (Lit × DataW H) → Nat
  | [] => 0
  | x :: r => uptoBulkEntry x + uptoBulkEntries r
def uptoBulkEntry {H : Type} : Lit × DataW H → Nat
  | (.string bytes, d) => bytes.length + uptoBulk d + 1
  | (_, d) => uptoBulk d + 1
 end
def uptoSmall : (H : Type) → List (DataW H) → Bool := fun _ ds => decide (uptoBulkAll ds ≤ 1048576)
def OpenSpec.upto (s : _root_.Go.ChangeSpec) : _root_.Go.OpenSpec := { _root_.Go.OpenSpec.ofChange s with cond := some uptoSmall }

/-- 'samaritanlaw50.ScenarioPick', WHERE WHAT IT READS IS OF BULK AT MOST 1048576: true; the input reads as it did. -/
def scenarioPickUptoRow : OpenClaim := { program := "ytnejacmmbfeneaa", sum := "b192432a944f87aba2d72fd0b4f37cbba2a85a42ad3b6247e4c4b53d35028572", func := "samaritan/samaritanlaw50.ScenarioPick", spec := "scenarioPick", apart := false, narrowed := true }
def ScenarioPickUptoSaid : Prop := scenarioPickUptoRow.holds Try.pinned (OpenSpec.upto scenarioPickSpec)

/-- 'samaritanlaw50.ScenarioRand', WHERE WHAT IT READS IS OF BULK AT MOST 1048576: true; the input reads as it did. -/
def scenarioRandUptoRow : OpenClaim := { program := "ytnejacmmbfeneaa", sum := "b192432a944f87aba2d72fd0b4f37cbba2a85a42ad3b6247e4c4b53d35028572", func := "samaritan/samaritanlaw50.ScenarioRand", spec := "scenarioRand", apart := false, narrowed := true }
def ScenarioRandUptoSaid : Prop := scenarioRandUptoRow.holds Try.pinned (OpenSpec.upto scenarioRandSpec)

/-- 'samaritanlaw50.ScenarioQuiesce', WHERE WHAT IT READS IS OF BULK AT MOST 1048576: true; the input reads as it did. -/
def scenarioQuiesceUptoRow : OpenClaim := { program := "ytnejacmmbfeneaa", sum := "b192432a944f87aba2d72fd0b4f37cbba2a85a42ad3b6247e4c4b53d35028572", func := "samaritan/samaritanlaw50.ScenarioQuiesce", spec := "scenarioQuiesce", unfollowed := true, recurses := true, apart := false, narrowed := true }
def ScenarioQuiesceUptoSaid : Prop := scenarioQuiesceUptoRow.holds Try.pinned (OpenSpec.upto scenarioQuiesceSpec)

/-- 'samaritanlaw50.ScenarioGenerate', WHERE WHAT IT READS IS OF BULK AT MOST 1048576: true; the input reads as it did. -/
def scenarioGenerateUptoRow : OpenClaim := { program := "ytnejacmmbfeneaa", sum := "b192432a944f87aba2d72fd0b4f37cbba2a85a42ad3b6247e4c4b53d35028572", func := "samaritan/samaritanlaw50.ScenarioGenerate", spec := "scenarioGenerate", unfollowed := true, recurses := true, apart := false, narrowed := true }
def ScenarioGenerateUptoSaid : Prop := scenarioGenerateUptoRow.holds Try.pinned (OpenSpec.upto scenarioGenerateSpec)

/-- 'samaritanlaw50.ScenarioPrefix', WHERE WHAT IT READS IS OF BULK AT MOST 1048576: true; the input reads as it did. -/
def scenarioPrefixUptoRow : OpenClaim := { program := "ytnejacmmbfeneaa", sum := "b192432a944f87aba2d72fd0b4f37cbba2a85a42ad3b6247e4c4b53d35028572", func := "samaritan/samaritanlaw50.ScenarioPrefix", spec := "scenarioPrefix", unfollowed := true, recurses := true, apart := false, narrowed := true }
def ScenarioPrefixUptoSaid : Prop := scenarioPrefixUptoRow.holds Try.pinned (OpenSpec.upto scenarioPrefixSpec)

/-- 'samaritanlaw50.ScenarioRefers', WHERE WHAT IT READS IS OF BULK AT MOST 1048576: true; the input reads as it did. -/
def scenarioRefersUptoRow : OpenClaim := { program := "ytnejacmmbfeneaa", sum := "b192432a944f87aba2d72fd0b4f37cbba2a85a42ad3b6247e4c4b53d35028572", func := "samaritan/samaritanlaw50.ScenarioRefers", spec := "scenarioRefers", unfollowed := true, recurses := true, apart := false, narrowed := true }
def ScenarioRefersUptoSaid : Prop := scenarioRefersUptoRow.holds Try.pinned (OpenSpec.upto scenarioRefersSpec)

end Rows
end Go.Proofs.Ytnejacmmbfeneaa

/-
  No cell of these rows narrows 'for every input' (looked for: loops, veiled, ifaces, maps, wideKeys, modest, calm, conditions, laid).
  DERIVED. THE GIVEN ROWS OF THIS SEAT. 7 by the template 'for every input the law returns true; each argument reads behind the call as it read before'; 0 by the template 'total and deterministic' (their statements: YtmkcphhgimlkgaaTotals.lean).
  GIVEN WITH THE SEED: the statements are not yours to turn. If you find one false, say at which input.
  Laid BY PROGRAM, IN A SANDBOX (cutbox-rows.mjs): the forced cells as the released guide's own fill.sh prints them over the translation 005f7464169fb7d3… (all of the seat's roots in one cut). By AI agents, Wed Nov 11 2026. No macro, syntax, notation, axiom, sorry.
-/
import Derived.Test.YtmkcphhgimlkgaaChecked
import GoSem.Claim
import GoSem.ClaimJoined
import GoSem.ClaimMapViews
import Derived.JoinedTies
import Derived.KernelRfl
namespace Go.Proofs.Ytmkcphhgimlkgaa
/- THE CELL 'sum', in the pinned program and in every row, IS THE sha256 OF THE DUMP (.gsa) THAT YtmkcphhgimlkgaaProg.lean LOADS. Nothing in Lean hashes anything: it is a label: what it is worth is what the hold of that sum in a sandbox is worth. -/
noncomputable def Try.pinned : Pinned := { name := "ytmkcphhgimlkgaa", sum := "005f7464169fb7d335a692813d708ad87358d67fc56f2f1e54b28488da685825", checked := Try.checked }
namespace Rows
def none {H : Type} : Left H := { results := [], args := [] }

/-- 'samaritanlaw42.DistrictProposals': WHATEVER THE INPUT: true; the input reads as it did. -/
def districtProposalsSpec : ChangeSpec := { name := "districtProposals", fn := fun _ => fun
  | [d1, d2] => { results := [.lit (.bool true)], args := [d1, d2] }
  | _ => none }
def districtProposalsRow : OpenClaim := { program := "ytmkcphhgimlkgaa", sum := "005f7464169fb7d335a692813d708ad87358d67fc56f2f1e54b28488da685825", func := "samaritan/samaritanlaw42.DistrictProposals", spec := "districtProposals", unfollowed := true, recurses := true, apart := false }
def DistrictProposalsSaid : Prop := districtProposalsRow.holds Try.pinned (OpenSpec.ofChange districtProposalsSpec)

/-- ITS FALSE NEIGHBOUR: 'it returns false'. Refute it at one input. -/
def districtProposalsWrong : ChangeSpec := { name := "districtProposals", fn := fun _ => fun
  | [d1, d2] => { results := [.lit (.bool false)], args := [d1, d2] }
  | _ => none }
def DistrictProposalsWrongFalsely : Prop := districtProposalsRow.holds Try.pinned (OpenSpec.ofChange districtProposalsWrong)

/-- 'samaritanlaw42.DistrictActive': WHATEVER THE INPUT: true; the input reads as it did. -/
def districtActiveSpec : ChangeSpec := { name := "districtActive", fn := fun _ => fun
  | [d1, d2, d3] => { results := [.lit (.bool true)], args := [d1, d2, d3] }
  | _ => none }
def districtActiveRow : OpenClaim := { program := "ytmkcphhgimlkgaa", sum := "005f7464169fb7d335a692813d708ad87358d67fc56f2f1e54b28488da685825", func := "samaritan/samaritanlaw42.DistrictActive", spec := "districtActive", unfollowed := true, recurses := true, apart := false }
def DistrictActiveSaid : Prop := districtActiveRow.holds Try.pinned (OpenSpec.ofChange districtActiveSpec)

/-- ITS FALSE NEIGHBOUR: 'it returns false'. Refute it at one input. -/
def districtActiveWrong : ChangeSpec := { name := "districtActive", fn := fun _ => fun
  | [d1, d2, d3] => { results := [.lit (.bool false)], args := [d1, d2, d3] }
  | _ => none }
def DistrictActiveWrongFalsely : Prop := districtActiveRow.holds Try.pinned (OpenSpec.ofChange districtActiveWrong)

/-- 'samaritanlaw42.DistrictSucceeds': WHATEVER THE INPUT: true; the input reads as it did. -/
def districtSucceedsSpec : ChangeSpec := { name := "districtSucceeds", fn := fun _ => fun
  | [d1, d2] => { results := [.lit (.bool true)], args := [d1, d2] }
  | _ => none }
def districtSucceedsRow : OpenClaim := { program := "ytmkcphhgimlkgaa", sum := "005f7464169fb7d335a692813d708ad87358d67fc56f2f1e54b28488da685825", func := "samaritan/samaritanlaw42.DistrictSucceeds", spec := "districtSucceeds", unfollowed := true, recurses := true, apart := false }
def DistrictSucceedsSaid : Prop := districtSucceedsRow.holds Try.pinned (OpenSpec.ofChange districtSucceedsSpec)

/-- ITS FALSE NEIGHBOUR: 'it returns false'. Refute it at one input. -/
def districtSucceedsWrong : ChangeSpec := { name := "districtSucceeds", fn := fun _ => fun
  | [d1, d2] => { results := [.lit (.bool false)], args := [d1, d2] }
  | _ => none }
def DistrictSucceedsWrongFalsely : Prop := districtSucceedsRow.holds Try.pinned (OpenSpec.ofChange districtSucceedsWrong)

/-- 'samaritanlaw42.DistrictSuccessor': WHATEVER THE INPUT: true; the input reads as it did. -/
def districtSuccessorSpec : ChangeSpec := { name := "districtSuccessor", fn := fun _ => fun
  | [d1, d2] => { results := [.lit (.bool true)], args := [d1, d2] }
  | _ => none }
def districtSuccessorRow : OpenClaim := { program := "ytmkcphhgimlkgaa", sum := "005f7464169fb7d335a692813d708ad87358d67fc56f2f1e54b28488da685825", func := "samaritan/samaritanlaw42.DistrictSuccessor", spec := "districtSuccessor", unfollowed := true, recurses := true, apart := false }
def DistrictSuccessorSaid : Prop := districtSuccessorRow.holds Try.pinned (OpenSpec.ofChange districtSuccessorSpec)

/-- ITS FALSE NEIGHBOUR: 'it returns false'. Refute it at one input. -/
def districtSuccessorWrong : ChangeSpec := { name := "districtSuccessor", fn := fun _ => fun
  | [d1, d2] => { results := [.lit (.bool false)], args := [d1, d2] }
  | _ => none }
def DistrictSuccessorWrongFalsely : Prop := districtSuccessorRow.holds Try.pinned (OpenSpec.ofChange districtSuccessorWrong)

/-- 'samaritanlaw42.DistrictExclusive': WHATEVER THE INPUT: true; the input reads as it did. -/
def districtExclusiveSpec : ChangeSpec := { name := "districtExclusive", fn := fun _ => fun
  | [d1, d2, d3] => { results := [.lit (.bool true)], args := [d1, d2, d3] }
  | _ => none }
def districtExclusiveRow : OpenClaim := { program := "ytmkcphhgimlkgaa", sum := "005f7464169fb7d335a692813d708ad87358d67fc56f2f1e54b28488da685825", func := "samaritan/samaritanlaw42.DistrictExclusive", spec := "districtExclusive", unfollowed := true, recurses := true, apart := false }
def DistrictExclusiveSaid : Prop := districtExclusiveRow.holds Try.pinned (OpenSpec.ofChange districtExclusiveSpec)

/-- ITS FALSE NEIGHBOUR: 'it returns false'. Refute it at one input. -/
def districtExclusiveWrong : ChangeSpec := { name := "districtExclusive", fn := fun _ => fun
  | [d1, d2, d3] => { results := [.lit (.bool false)], args := [d1, d2, d3] }
  | _ => none }
def DistrictExclusiveWrongFalsely : Prop := districtExclusiveRow.holds Try.pinned (OpenSpec.ofChange districtExclusiveWrong)

/-- 'samaritanlaw42.DistrictNodes': WHATEVER THE INPUT: true; the input reads as it did. -/
def districtNodesSpec : ChangeSpec := { name := "districtNodes", fn := fun _ => fun
  | [d1, d2] => { results := [.lit (.bool true)], args := [d1, d2] }
  | _ => none }
def districtNodesRow : OpenClaim := { program := "ytmkcphhgimlkgaa", sum := "005f7464169fb7d335a692813d708ad87358d67fc56f2f1e54b28488da685825", func := "samaritan/samaritanlaw42.DistrictNodes", spec := "districtNodes", unfollowed := true, recurses := true, apart := false }
def DistrictNodesSaid : Prop := districtNodesRow.holds Try.pinned (OpenSpec.ofChange districtNodesSpec)

/-- ITS FALSE NEIGHBOUR: 'it returns false'. Refute it at one input. -/
def districtNodesWrong : ChangeSpec := { name := "districtNodes", fn := fun _ => fun
  | [d1, d2] => { results := [.lit (.bool false)], args := [d1, d2] }
  | _ => none }
def DistrictNodesWrongFalsely : Prop := districtNodesRow.holds Try.pinned (OpenSpec.ofChange districtNodesWrong)

/-- 'samaritanlaw42.DistrictMatches': WHATEVER THE INPUT: true; the input reads as it did. -/
def districtMatchesSpec : ChangeSpec := { name := "districtMatches", fn := fun _ => fun
  | [d] => { results := [.lit (.bool true)], args := [d] }
  | _ => none }
def districtMatchesRow : OpenClaim := { program := "ytmkcphhgimlkgaa", sum := "005f7464169fb7d335a692813d708ad87358d67fc56f2f1e54b28488da685825", func := "samaritan/samaritanlaw42.DistrictMatches", spec := "districtMatches", unfollowed := true, recurses := true, apart := false }
def DistrictMatchesSaid : Prop := districtMatchesRow.holds Try.pinned (OpenSpec.ofChange districtMatchesSpec)

/-- ITS FALSE NEIGHBOUR: 'it returns false'. Refute it at one input. -/
def districtMatchesWrong : ChangeSpec := { name := "districtMatches", fn := fun _ => fun
  | [d] => { results := [.lit (.bool false)], args := [d] }
  | _ => none }
def DistrictMatchesWrongFalsely : Prop := districtMatchesRow.holds Try.pinned (OpenSpec.ofChange districtMatchesWrong)

/- THE SECOND FORM. 'bulk': how many values and letters a reading holds, each counted each time it is reached (what is shared counts as often as it is met; a slice's spare places count too). A statement '..UptoSaid' is the law's where the arguments, and the package variables that the reading takes, are together of bulk at most 1048576: NARROWER than '..Said'. Prove '..Said' where nothing that the law and all that it calls make is longer than what came in: it says more and counts as full. Else prove '..UptoSaid'. A law counts once. -/
mutual
def uptoBulk {H : Type} : DataW H → Nat
  | .lit (.string bytes) => bytes.length + 1
  | .lit _ => 1
  | .nil => 1
  | .ptr d => uptoBulk d + 1
  | .slice elems spare => uptoBulkAll elems + uptoBulkAll spare + 1
  | .agg parts => uptoBulkAll parts + 1
  | .iface _ d => uptoBulk d + 1
  | .map entries => uptoBulkEntries entries + 1
  | .held _ => 1
def uptoBulkAll {H : Type} : List (DataW H) → Nat
  | [] => 0
  | d :: r => uptoBulk d + uptoBulkAll r
def uptoBulkEntries {H : Type} : List (Lit × DataW H) → Nat
  | [] => 0
  | x :: r => uptoBulkEntry x + uptoBulkEntries r
def uptoBulkEntry {H : Type} : Lit × DataW H → Nat
  | (.string bytes, d) => bytes.length + uptoBulk d + 1
  | (_, d) => uptoBulk d + 1
 end
def uptoSmall : (H : Type) → List (DataW H) → Bool := fun _ ds => decide (uptoBulkAll ds ≤ 1048576)
def OpenSpec.upto (s : _root_.Go.ChangeSpec) : _root_.Go.OpenSpec := { _root_.Go.OpenSpec.ofChange s with cond := some uptoSmall }

/-- 'samaritanlaw42.DistrictProposals', WHERE WHAT IT READS IS OF BULK AT MOST 1048576: true; the input reads as it did. -/
def districtProposalsUptoRow : OpenClaim := { program := "ytmkcphhgimlkgaa", sum := "005f7464169fb7d335a692813d708ad87358d67fc56f2f1e54b28488da685825", func := "samaritan/samaritanlaw42.DistrictProposals", spec := "districtProposals", unfollowed := true, recurses := true, apart := false, narrowed := true }
def DistrictProposalsUptoSaid : Prop := districtProposalsUptoRow.holds Try.pinned (OpenSpec.upto districtProposalsSpec)

/-- 'samaritanlaw42.DistrictActive', WHERE WHAT IT READS IS OF BULK AT MOST 1048576: true; the input reads as it did. -/
def districtActiveUptoRow : OpenClaim := { program := "ytmkcphhgimlkgaa", sum := "005f7464169fb7d335a692813d708ad87358d67fc56f2f1e54b28488da685825", func := "samaritan/samaritanlaw42.DistrictActive", spec := "districtActive", unfollowed := true, recurses := true, apart := false, narrowed := true }
def DistrictActiveUptoSaid : Prop := districtActiveUptoRow.holds Try.pinned (OpenSpec.upto districtActiveSpec)

/-- 'samaritanlaw42.DistrictSucceeds', WHERE WHAT IT READS IS OF BULK AT MOST 1048576: true; the input reads as it did. -/
def districtSucceedsUptoRow : OpenClaim := { program := "ytmkcphhgimlkgaa", sum := "005f7464169fb7d335a692813d708ad87358d67fc56f2f1e54b28488da685825", func := "samaritan/samaritanlaw42.DistrictSucceeds", spec := "districtSucceeds", unfollowed := true, recurses := true, apart := false, narrowed := true }
def DistrictSucceedsUptoSaid : Prop := districtSucceedsUptoRow.holds Try.pinned (OpenSpec.upto districtSucceedsSpec)

/-- 'samaritanlaw42.DistrictSuccessor', WHERE WHAT IT READS IS OF BULK AT MOST 1048576: true; the input reads as it did. -/
def districtSuccessorUptoRow : OpenClaim := { program := "ytmkcphhgimlkgaa", sum := "005f7464169fb7d335a692813d708ad87358d67fc56f2f1e54b28488da685825", func := "samaritan/samaritanlaw42.DistrictSuccessor", spec := "districtSuccessor", unfollowed := true, recurses := true, apart := false, narrowed := true }
def DistrictSuccessorUptoSaid : Prop := districtSuccessorUptoRow.holds Try.pinned (OpenSpec.upto districtSuccessorSpec)

/-- 'samaritanlaw42.DistrictExclusive', WHERE WHAT IT READS IS OF BULK AT MOST 1048576: true; the input reads as it did. -/
def districtExclusiveUptoRow : OpenClaim := { program := "ytmkcphhgimlkgaa", sum := "005f7464169fb7d335a692813d708ad87358d67fc56f2f1e54b28488da685825", func := "samaritan/samaritanlaw42.DistrictExclusive", spec := "districtExclusive", unfollowed := true, recurses := true, apart := false, narrowed := true }
def DistrictExclusiveUptoSaid : Prop := districtExclusiveUptoRow.holds Try.pinned (OpenSpec.upto districtExclusiveSpec)

/-- 'samaritanlaw42.DistrictNodes', WHERE WHAT IT READS IS OF BULK AT MOST 1048576: true; the input reads as it did. -/
def districtNodesUptoRow : OpenClaim := { program := "ytmkcphhgimlkgaa", sum := "005f7464169fb7d335a692813d708ad87358d67fc56f2f1e54b28488da685825", func := "samaritan/samaritanlaw42.DistrictNodes", spec := "districtNodes", unfollowed := true, recurses := true, apart := false, narrowed := true }
def DistrictNodesUptoSaid : Prop := districtNodesUptoRow.holds Try.pinned (OpenSpec.upto districtNodesSpec)

/-- 'samaritanlaw42.DistrictMatches', WHERE WHAT IT READS IS OF BULK AT MOST 1048576: true; the input reads as it did. -/
def districtMatchesUptoRow : OpenClaim := { program := "ytmkcphhgimlkgaa", sum := "005f7464169fb7d335a692813d708ad87358d67fc56f2f1e54b28488da685825", func := "samaritan/samaritanlaw42.DistrictMatches", spec := "districtMatches", unfollowed := true, recurses := true, apart := false, narrowed := true }
def DistrictMatchesUptoSaid : Prop := districtMatchesUptoRow.holds Try.pinned (OpenSpec.upto districtMatchesSpec)

end Rows
end Go.Proofs.Ytmkcphhgimlkgaa

/-
  No cell of these rows narrows 'for every input' (looked for: loops, veiled, ifaces, maps, wideKeys, modest, calm, conditions, laid).
  DERIVED. THE GIVEN ROWS OF THIS SEAT. 8 by the template 'for every input the law returns true; each argument reads behind the call as it read before'; 0 by the template 'total and deterministic' (their statements: YtbellndcgagclaaTotals.lean).
  GIVEN WITH THE SEED: the statements are not yours to turn. If you find one false, say at which input.
  Laid BY PROGRAM, IN A SANDBOX (cutbox-rows.mjs): the forced cells as the released guide's own fill.sh prints them over the translation 84f3f9ea3112474b… (all of the seat's roots in one cut). By AI agents, Wed Nov 11 2026. No macro, syntax, notation, axiom, sorry.
-/
import Derived.Test.YtbellndcgagclaaChecked
import GoSem.Claim
import GoSem.ClaimJoined
import GoSem.ClaimMapViews
import Derived.JoinedTies
import Derived.KernelRfl
namespace Go.Proofs.Ytbellndcgagclaa
/- THE CELL 'sum', in the pinned program and in every row, IS THE sha256 OF THE DUMP (.gsa) THAT YtbellndcgagclaaProg.lean LOADS. Nothing in Lean hashes anything: it is a label: what it is worth is what the hold of that sum in a sandbox is worth. -/
noncomputable def Try.pinned : Pinned := { name := "ytbellndcgagclaa", sum := "84f3f9ea3112474b3f0ba75bcc9c5c6e7850c768a685f047f379c70db65930cb", checked := Try.checked }
namespace Rows
def none {H : Type} : Left H := { results := [], args := [] }

/-- 'samaritanlaw23.RaftlogCommonPrefix': WHATEVER THE INPUT: true; the input reads as it did. -/
def raftlogCommonPrefixSpec : ChangeSpec := { name := "raftlogCommonPrefix", fn := fun _ => fun
  | [d1, d2] => { results := [.lit (.bool true)], args := [d1, d2] }
  | _ => none }
def raftlogCommonPrefixRow : OpenClaim := { program := "ytbellndcgagclaa", sum := "84f3f9ea3112474b3f0ba75bcc9c5c6e7850c768a685f047f379c70db65930cb", func := "samaritan/samaritanlaw23.RaftlogCommonPrefix", spec := "raftlogCommonPrefix", apart := false }
def RaftlogCommonPrefixSaid : Prop := raftlogCommonPrefixRow.holds Try.pinned (OpenSpec.ofChange raftlogCommonPrefixSpec)

/-- ITS FALSE NEIGHBOUR: 'it returns false'. Refute it at one input. -/
def raftlogCommonPrefixWrong : ChangeSpec := { name := "raftlogCommonPrefix", fn := fun _ => fun
  | [d1, d2] => { results := [.lit (.bool false)], args := [d1, d2] }
  | _ => none }
def RaftlogCommonPrefixWrongFalsely : Prop := raftlogCommonPrefixRow.holds Try.pinned (OpenSpec.ofChange raftlogCommonPrefixWrong)

/-- 'samaritanlaw23.RaftlogMatching': WHATEVER THE INPUT: true; the input reads as it did. -/
def raftlogMatchingSpec : ChangeSpec := { name := "raftlogMatching", fn := fun _ => fun
  | [d1, d2, d3] => { results := [.lit (.bool true)], args := [d1, d2, d3] }
  | _ => none }
def raftlogMatchingRow : OpenClaim := { program := "ytbellndcgagclaa", sum := "84f3f9ea3112474b3f0ba75bcc9c5c6e7850c768a685f047f379c70db65930cb", func := "samaritan/samaritanlaw23.RaftlogMatching", spec := "raftlogMatching", apart := false }
def RaftlogMatchingSaid : Prop := raftlogMatchingRow.holds Try.pinned (OpenSpec.ofChange raftlogMatchingSpec)

/-- ITS FALSE NEIGHBOUR: 'it returns false'. Refute it at one input. -/
def raftlogMatchingWrong : ChangeSpec := { name := "raftlogMatching", fn := fun _ => fun
  | [d1, d2, d3] => { results := [.lit (.bool false)], args := [d1, d2, d3] }
  | _ => none }
def RaftlogMatchingWrongFalsely : Prop := raftlogMatchingRow.holds Try.pinned (OpenSpec.ofChange raftlogMatchingWrong)

/-- 'samaritanlaw23.RaftlogMatchesModel': WHATEVER THE INPUT: true; the input reads as it did. -/
def raftlogMatchesModelSpec : ChangeSpec := { name := "raftlogMatchesModel", fn := fun _ => fun
  | [d] => { results := [.lit (.bool true)], args := [d] }
  | _ => none }
def raftlogMatchesModelRow : OpenClaim := { program := "ytbellndcgagclaa", sum := "84f3f9ea3112474b3f0ba75bcc9c5c6e7850c768a685f047f379c70db65930cb", func := "samaritan/samaritanlaw23.RaftlogMatchesModel", spec := "raftlogMatchesModel", apart := false }
def RaftlogMatchesModelSaid : Prop := raftlogMatchesModelRow.holds Try.pinned (OpenSpec.ofChange raftlogMatchesModelSpec)

/-- ITS FALSE NEIGHBOUR: 'it returns false'. Refute it at one input. -/
def raftlogMatchesModelWrong : ChangeSpec := { name := "raftlogMatchesModel", fn := fun _ => fun
  | [d] => { results := [.lit (.bool false)], args := [d] }
  | _ => none }
def RaftlogMatchesModelWrongFalsely : Prop := raftlogMatchesModelRow.holds Try.pinned (OpenSpec.ofChange raftlogMatchesModelWrong)

/-- 'samaritanlaw23.RaftlogPutEffect': WHATEVER THE INPUT: true; the input reads as it did. -/
def raftlogPutEffectSpec : ChangeSpec := { name := "raftlogPutEffect", fn := fun _ => fun
  | [d1, d2] => { results := [.lit (.bool true)], args := [d1, d2] }
  | _ => none }
def raftlogPutEffectRow : OpenClaim := { program := "ytbellndcgagclaa", sum := "84f3f9ea3112474b3f0ba75bcc9c5c6e7850c768a685f047f379c70db65930cb", func := "samaritan/samaritanlaw23.RaftlogPutEffect", spec := "raftlogPutEffect", apart := false }
def RaftlogPutEffectSaid : Prop := raftlogPutEffectRow.holds Try.pinned (OpenSpec.ofChange raftlogPutEffectSpec)

/-- ITS FALSE NEIGHBOUR: 'it returns false'. Refute it at one input. -/
def raftlogPutEffectWrong : ChangeSpec := { name := "raftlogPutEffect", fn := fun _ => fun
  | [d1, d2] => { results := [.lit (.bool false)], args := [d1, d2] }
  | _ => none }
def RaftlogPutEffectWrongFalsely : Prop := raftlogPutEffectRow.holds Try.pinned (OpenSpec.ofChange raftlogPutEffectWrong)

/-- 'samaritanlaw23.RaftlogLookups': WHATEVER THE INPUT: true; the input reads as it did. -/
def raftlogLookupsSpec : ChangeSpec := { name := "raftlogLookups", fn := fun _ => fun
  | [d1, d2, d3] => { results := [.lit (.bool true)], args := [d1, d2, d3] }
  | _ => none }
def raftlogLookupsRow : OpenClaim := { program := "ytbellndcgagclaa", sum := "84f3f9ea3112474b3f0ba75bcc9c5c6e7850c768a685f047f379c70db65930cb", func := "samaritan/samaritanlaw23.RaftlogLookups", spec := "raftlogLookups", apart := false }
def RaftlogLookupsSaid : Prop := raftlogLookupsRow.holds Try.pinned (OpenSpec.ofChange raftlogLookupsSpec)

/-- ITS FALSE NEIGHBOUR: 'it returns false'. Refute it at one input. -/
def raftlogLookupsWrong : ChangeSpec := { name := "raftlogLookups", fn := fun _ => fun
  | [d1, d2, d3] => { results := [.lit (.bool false)], args := [d1, d2, d3] }
  | _ => none }
def RaftlogLookupsWrongFalsely : Prop := raftlogLookupsRow.holds Try.pinned (OpenSpec.ofChange raftlogLookupsWrong)

/-- 'samaritanlaw23.RaftlogNoAliasing': WHATEVER THE INPUT: true; the input reads as it did. -/
def raftlogNoAliasingSpec : ChangeSpec := { name := "raftlogNoAliasing", fn := fun _ => fun
  | [d] => { results := [.lit (.bool true)], args := [d] }
  | _ => none }
def raftlogNoAliasingRow : OpenClaim := { program := "ytbellndcgagclaa", sum := "84f3f9ea3112474b3f0ba75bcc9c5c6e7850c768a685f047f379c70db65930cb", func := "samaritan/samaritanlaw23.RaftlogNoAliasing", spec := "raftlogNoAliasing", apart := false }
def RaftlogNoAliasingSaid : Prop := raftlogNoAliasingRow.holds Try.pinned (OpenSpec.ofChange raftlogNoAliasingSpec)

/-- ITS FALSE NEIGHBOUR: 'it returns false'. Refute it at one input. -/
def raftlogNoAliasingWrong : ChangeSpec := { name := "raftlogNoAliasing", fn := fun _ => fun
  | [d] => { results := [.lit (.bool false)], args := [d] }
  | _ => none }
def RaftlogNoAliasingWrongFalsely : Prop := raftlogNoAliasingRow.holds Try.pinned (OpenSpec.ofChange raftlogNoAliasingWrong)

/-- 'samaritanlaw23.RaftlogDecoding': WHATEVER THE INPUT: true; the input reads as it did. -/
def raftlogDecodingSpec : ChangeSpec := { name := "raftlogDecoding", fn := fun _ => fun
  | [d1, d2] => { results := [.lit (.bool true)], args := [d1, d2] }
  | _ => none }
def raftlogDecodingRow : OpenClaim := { program := "ytbellndcgagclaa", sum := "84f3f9ea3112474b3f0ba75bcc9c5c6e7850c768a685f047f379c70db65930cb", func := "samaritan/samaritanlaw23.RaftlogDecoding", spec := "raftlogDecoding", apart := false }
def RaftlogDecodingSaid : Prop := raftlogDecodingRow.holds Try.pinned (OpenSpec.ofChange raftlogDecodingSpec)

/-- ITS FALSE NEIGHBOUR: 'it returns false'. Refute it at one input. -/
def raftlogDecodingWrong : ChangeSpec := { name := "raftlogDecoding", fn := fun _ => fun
  | [d1, d2] => { results := [.lit (.bool false)], args := [d1, d2] }
  | _ => none }
def RaftlogDecodingWrongFalsely : Prop := raftlogDecodingRow.holds Try.pinned (OpenSpec.ofChange raftlogDecodingWrong)

/-- 'samaritanlaw23.RaftlogEncoding': WHATEVER THE INPUT: true; the input reads as it did. -/
def raftlogEncodingSpec : ChangeSpec := { name := "raftlogEncoding", fn := fun _ => fun
  | [d] => { results := [.lit (.bool true)], args := [d] }
  | _ => none }
def raftlogEncodingRow : OpenClaim := { program := "ytbellndcgagclaa", sum := "84f3f9ea3112474b3f0ba75bcc9c5c6e7850c768a685f047f379c70db65930cb", func := "samaritan/samaritanlaw23.RaftlogEncoding", spec := "raftlogEncoding", apart := false }
def RaftlogEncodingSaid : Prop := raftlogEncodingRow.holds Try.pinned (OpenSpec.ofChange raftlogEncodingSpec)

/-- ITS FALSE NEIGHBOUR: 'it returns false'. Refute it at one input. -/
def raftlogEncodingWrong : ChangeSpec := { name := "raftlogEncoding", fn := fun _ => fun
  | [d] => { results := [.lit (.bool false)], args := [d] }
  | _ => none }
def RaftlogEncodingWrongFalsely : Prop := raftlogEncodingRow.holds Try.pinned (OpenSpec.ofChange raftlogEncodingWrong)

/- THE SECOND FORM. 'bulk': how many values and letters a reading holds, each counted each time it is reached (what is shared counts as often as it is met; a slice's spare places count too). A statement '..UptoSaid' is the law's where the arguments, and the package variables that the reading takes, are together of bulk at most 1048576: NARROWER than '..Said'. Prove '..Said' where nothing that the law and all that it calls make is longer than what came in: it says more and counts as full. Else prove '..UptoSaid'. A law counts once. -/
mutual
def uptoBulk {H : Type} : DataW H → Nat
  | .lit (.string bytes) => bytes.length + 1
  | .lit _ => 1
  | .nil => 1
  | .ptr d => uptoBulk d + 1
  | .slice elems spare => uptoBulkAll elems + uptoBulkAll spare + 1
  | .agg parts => uptoBulkAll parts + 1
  | .iface _ d => uptoBulk d + 1
  | .map entries => uptoBulkEntries entries + 1
  | .held _ => 1
def uptoBulkAll {H : Type} : List (DataW H) → Nat
  | [] => 0
  | d :: r => uptoBulk d + uptoBulkAll r
def uptoBulkEntries {H : Type} : List (Lit × DataW H) → Nat
  | [] => 0
  | x :: r => uptoBulkEntry x + uptoBulkEntries r
def uptoBulkEntry {H : Type} : Lit × DataW H → Nat
  | (.string bytes, d) => bytes.length + uptoBulk d + 1
  | (_, d) => uptoBulk d + 1
 end
def uptoSmall : (H : Type) → List (DataW H) → Bool := fun _ ds => decide (uptoBulkAll ds ≤ 1048576)
def OpenSpec.upto (s : _root_.Go.ChangeSpec) : _root_.Go.OpenSpec := { _root_.Go.OpenSpec.ofChange s with cond := some uptoSmall }

/-- 'samaritanlaw23.RaftlogCommonPrefix', WHERE WHAT IT READS IS OF BULK AT MOST 1048576: true; the input reads as it did. -/
def raftlogCommonPrefixUptoRow : OpenClaim := { program := "ytbellndcgagclaa", sum := "84f3f9ea3112474b3f0ba75bcc9c5c6e7850c768a685f047f379c70db65930cb", func := "samaritan/samaritanlaw23.RaftlogCommonPrefix", spec := "raftlogCommonPrefix", apart := false, narrowed := true }
def RaftlogCommonPrefixUptoSaid : Prop := raftlogCommonPrefixUptoRow.holds Try.pinned (OpenSpec.upto raftlogCommonPrefixSpec)

/-- 'samaritanlaw23.RaftlogMatching', WHERE WHAT IT READS IS OF BULK AT MOST 1048576: true; the input reads as it did. -/
def raftlogMatchingUptoRow : OpenClaim := { program := "ytbellndcgagclaa", sum := "84f3f9ea3112474b3f0ba75bcc9c5c6e7850c768a685f047f379c70db65930cb", func := "samaritan/samaritanlaw23.RaftlogMatching", spec := "raftlogMatching", apart := false, narrowed := true }
def RaftlogMatchingUptoSaid : Prop := raftlogMatchingUptoRow.holds Try.pinned (OpenSpec.upto raftlogMatchingSpec)

/-- 'samaritanlaw23.RaftlogMatchesModel', WHERE WHAT IT READS IS OF BULK AT MOST 1048576: true; the input reads as it did. -/
def raftlogMatchesModelUptoRow : OpenClaim := { program := "ytbellndcgagclaa", sum := "84f3f9ea3112474b3f0ba75bcc9c5c6e7850c768a685f047f379c70db65930cb", func := "samaritan/samaritanlaw23.RaftlogMatchesModel", spec := "raftlogMatchesModel", apart := false, narrowed := true }
def RaftlogMatchesModelUptoSaid : Prop := raftlogMatchesModelUptoRow.holds Try.pinned (OpenSpec.upto raftlogMatchesModelSpec)

/-- 'samaritanlaw23.RaftlogPutEffect', WHERE WHAT IT READS IS OF BULK AT MOST 1048576: true; the input reads as it did. -/
def raftlogPutEffectUptoRow : OpenClaim := { program := "ytbellndcgagclaa", sum := "84f3f9ea3112474b3f0ba75bcc9c5c6e7850c768a685f047f379c70db65930cb", func := "samaritan/samaritanlaw23.RaftlogPutEffect", spec := "raftlogPutEffect", apart := false, narrowed := true }
def RaftlogPutEffectUptoSaid : Prop := raftlogPutEffectUptoRow.holds Try.pinned (OpenSpec.upto raftlogPutEffectSpec)

/-- 'samaritanlaw23.RaftlogLookups', WHERE WHAT IT READS IS OF BULK AT MOST 1048576: true; the input reads as it did. -/
def raftlogLookupsUptoRow : OpenClaim := { program := "ytbellndcgagclaa", sum := "84f3f9ea3112474b3f0ba75bcc9c5c6e7850c768a685f047f379c70db65930cb", func := "samaritan/samaritanlaw23.RaftlogLookups", spec := "raftlogLookups", apart := false, narrowed := true }
def RaftlogLookupsUptoSaid : Prop := raftlogLookupsUptoRow.holds Try.pinned (OpenSpec.upto raftlogLookupsSpec)

/-- 'samaritanlaw23.RaftlogNoAliasing', WHERE WHAT IT READS IS OF BULK AT MOST 1048576: true; the input reads as it did. -/
def raftlogNoAliasingUptoRow : OpenClaim := { program := "ytbellndcgagclaa", sum := "84f3f9ea3112474b3f0ba75bcc9c5c6e7850c768a685f047f379c70db65930cb", func := "samaritan/samaritanlaw23.RaftlogNoAliasing", spec := "raftlogNoAliasing", apart := false, narrowed := true }
def RaftlogNoAliasingUptoSaid : Prop := raftlogNoAliasingUptoRow.holds Try.pinned (OpenSpec.upto raftlogNoAliasingSpec)

/-- 'samaritanlaw23.RaftlogDecoding', WHERE WHAT IT READS IS OF BULK AT MOST 1048576: true; the input reads as it did. -/
def raftlogDecodingUptoRow : OpenClaim := { program := "ytbellndcgagclaa", sum := "84f3f9ea3112474b3f0ba75bcc9c5c6e7850c768a685f047f379c70db65930cb", func := "samaritan/samaritanlaw23.RaftlogDecoding", spec := "raftlogDecoding", apart := false, narrowed := true }
def RaftlogDecodingUptoSaid : Prop := raftlogDecodingUptoRow.holds Try.pinned (OpenSpec.upto raftlogDecodingSpec)

/-- 'samaritanlaw23.RaftlogEncoding', WHERE WHAT IT READS IS OF BULK AT MOST 1048576: true; the input reads as it did. -/
def raftlogEncodingUptoRow : OpenClaim := { program := "ytbellndcgagclaa", sum := "84f3f9ea3112474b3f0ba75bcc9c5c6e7850c768a685f047f379c70db65930cb", func := "samaritan/samaritanlaw23.RaftlogEncoding", spec := "raftlogEncoding", apart := false, narrowed := true }
def RaftlogEncodingUptoSaid : Prop := raftlogEncodingUptoRow.holds Try.pinned (OpenSpec.upto raftlogEncodingSpec)

end Rows
end Go.Proofs.Ytbellndcgagclaa

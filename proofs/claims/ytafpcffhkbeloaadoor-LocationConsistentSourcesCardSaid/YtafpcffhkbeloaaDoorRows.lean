/-
  NARROWER THAN 'FOR EVERY INPUT', by the rows' own cells (each row's printed sentence says how): LocationMatchesModel: laid · LocationNoAliasing: laid · LocationShrinks: laid · LocationConsistency: laid · LocationRebuild: laid · LocationConsistentSources: laid.
  DERIVED. THE GIVEN ROWS OF THIS SEAT. 6 by the template 'for every input the law returns true; each argument reads behind the call as it read before'; 0 by the template 'total and deterministic' (their statements: YtafpcffhkbeloaaDoorTotals.lean).
  GIVEN WITH THE SEED: the statements are not yours to turn. If you find one false, say at which input.
  Laid BY PROGRAM, IN A SANDBOX (cutbox-rows.mjs): the forced cells as the released guide's own fill.sh prints them over the translation 1ec62c7677109ebc… (all of the seat's roots in one cut). By AI agents, Wed Nov 11 2026. No macro, syntax, notation, axiom, sorry.
-/
import Derived.Test.YtafpcffhkbeloaaDoorChecked
import GoSem.Claim
import GoSem.ClaimJoined
import GoSem.ClaimMapViews
import Derived.JoinedTies
import Derived.KernelRfl
namespace Go.Proofs.YtafpcffhkbeloaaDoor
/- THE CELL 'sum', in the pinned program and in every row, IS THE sha256 OF THE DUMP (.gsa) THAT YtafpcffhkbeloaaDoorProg.lean LOADS. Nothing in Lean hashes anything: it is a label: what it is worth is what the hold of that sum in a sandbox is worth. -/
noncomputable def Tryd.pinned : Pinned := { name := "ytafpcffhkbeloaadoor", sum := "1ec62c7677109ebc51f78872071e3058153969aa79053c8f81564dd63f472e99", checked := Tryd.checked }
namespace Rows
def none {H : Type} : Left H := { results := [], args := [] }

/- WHAT THE LISTED PACKAGE-LEVEL VARIABLES READ AS WHEN THE CALL BEGINS. Each datum BY PROGRAM (the guide's laid-datum.mjs) off the statement by which the dump's own 'gosem.cut.vars' lays the variable. In a bare row this is a premise. The card (YtafpcffhkbeloaaDoorCards.lean) ties it to the program's text. -/
def laid_math_bits_deBruijn64tab {H : Type} : DataW H := .agg [.lit (.int .u8 0), .lit (.int .u8 1), .lit (.int .u8 56), .lit (.int .u8 2), .lit (.int .u8 57), .lit (.int .u8 49), .lit (.int .u8 28), .lit (.int .u8 3), .lit (.int .u8 61), .lit (.int .u8 58), .lit (.int .u8 42), .lit (.int .u8 50), .lit (.int .u8 38), .lit (.int .u8 29), .lit (.int .u8 17), .lit (.int .u8 4), .lit (.int .u8 62), .lit (.int .u8 47), .lit (.int .u8 59), .lit (.int .u8 36), .lit (.int .u8 45), .lit (.int .u8 43), .lit (.int .u8 51), .lit (.int .u8 22), .lit (.int .u8 53), .lit (.int .u8 39), .lit (.int .u8 33), .lit (.int .u8 30), .lit (.int .u8 24), .lit (.int .u8 18), .lit (.int .u8 12), .lit (.int .u8 5), .lit (.int .u8 63), .lit (.int .u8 55), .lit (.int .u8 48), .lit (.int .u8 27), .lit (.int .u8 60), .lit (.int .u8 41), .lit (.int .u8 37), .lit (.int .u8 16), .lit (.int .u8 46), .lit (.int .u8 35), .lit (.int .u8 44), .lit (.int .u8 21), .lit (.int .u8 52), .lit (.int .u8 32), .lit (.int .u8 23), .lit (.int .u8 11), .lit (.int .u8 54), .lit (.int .u8 26), .lit (.int .u8 40), .lit (.int .u8 15), .lit (.int .u8 34), .lit (.int .u8 20), .lit (.int .u8 31), .lit (.int .u8 10), .lit (.int .u8 25), .lit (.int .u8 14), .lit (.int .u8 19), .lit (.int .u8 9), .lit (.int .u8 13), .lit (.int .u8 8), .lit (.int .u8 7), .lit (.int .u8 6)]

/-- 'samaritanlaw11.LocationMatchesModel': WHATEVER THE INPUT: true; the input reads as it did. -/
def locationMatchesModelSpec : ChangeSpec := { name := "locationMatchesModel", fn := fun _ => fun
  | [d1, d2] => { results := [.lit (.bool true)], args := [d1, d2] }
  | _ => none }
def locationMatchesModelRow : OpenClaim := { program := "ytafpcffhkbeloaadoor", sum := "1ec62c7677109ebc51f78872071e3058153969aa79053c8f81564dd63f472e99", func := "samaritan/samaritanlaw11.LocationMatchesModel", spec := "locationMatchesModel", unfollowed := true, recurses := true, named := ["math/bits.deBruijn64tab"], apart := false, laid := [("math/bits.deBruijn64tab", laid_math_bits_deBruijn64tab)] }
def LocationMatchesModelSaid : Prop := locationMatchesModelRow.holds Tryd.pinned (OpenSpec.ofChange locationMatchesModelSpec)

/-- ITS FALSE NEIGHBOUR: 'it returns false'. Refute it at one input. -/
def locationMatchesModelWrong : ChangeSpec := { name := "locationMatchesModel", fn := fun _ => fun
  | [d1, d2] => { results := [.lit (.bool false)], args := [d1, d2] }
  | _ => none }
def LocationMatchesModelWrongFalsely : Prop := locationMatchesModelRow.holds Tryd.pinned (OpenSpec.ofChange locationMatchesModelWrong)

/-- 'samaritanlaw11.LocationNoAliasing': WHATEVER THE INPUT: true; the input reads as it did. -/
def locationNoAliasingSpec : ChangeSpec := { name := "locationNoAliasing", fn := fun _ => fun
  | [d1, d2] => { results := [.lit (.bool true)], args := [d1, d2] }
  | _ => none }
def locationNoAliasingRow : OpenClaim := { program := "ytafpcffhkbeloaadoor", sum := "1ec62c7677109ebc51f78872071e3058153969aa79053c8f81564dd63f472e99", func := "samaritan/samaritanlaw11.LocationNoAliasing", spec := "locationNoAliasing", unfollowed := true, recurses := true, named := ["math/bits.deBruijn64tab"], apart := false, laid := [("math/bits.deBruijn64tab", laid_math_bits_deBruijn64tab)] }
def LocationNoAliasingSaid : Prop := locationNoAliasingRow.holds Tryd.pinned (OpenSpec.ofChange locationNoAliasingSpec)

/-- ITS FALSE NEIGHBOUR: 'it returns false'. Refute it at one input. -/
def locationNoAliasingWrong : ChangeSpec := { name := "locationNoAliasing", fn := fun _ => fun
  | [d1, d2] => { results := [.lit (.bool false)], args := [d1, d2] }
  | _ => none }
def LocationNoAliasingWrongFalsely : Prop := locationNoAliasingRow.holds Tryd.pinned (OpenSpec.ofChange locationNoAliasingWrong)

/-- 'samaritanlaw11.LocationShrinks': WHATEVER THE INPUT: true; the input reads as it did. -/
def locationShrinksSpec : ChangeSpec := { name := "locationShrinks", fn := fun _ => fun
  | [d1, d2, d3] => { results := [.lit (.bool true)], args := [d1, d2, d3] }
  | _ => none }
def locationShrinksRow : OpenClaim := { program := "ytafpcffhkbeloaadoor", sum := "1ec62c7677109ebc51f78872071e3058153969aa79053c8f81564dd63f472e99", func := "samaritan/samaritanlaw11.LocationShrinks", spec := "locationShrinks", unfollowed := true, recurses := true, named := ["math/bits.deBruijn64tab"], apart := false, laid := [("math/bits.deBruijn64tab", laid_math_bits_deBruijn64tab)] }
def LocationShrinksSaid : Prop := locationShrinksRow.holds Tryd.pinned (OpenSpec.ofChange locationShrinksSpec)

/-- ITS FALSE NEIGHBOUR: 'it returns false'. Refute it at one input. -/
def locationShrinksWrong : ChangeSpec := { name := "locationShrinks", fn := fun _ => fun
  | [d1, d2, d3] => { results := [.lit (.bool false)], args := [d1, d2, d3] }
  | _ => none }
def LocationShrinksWrongFalsely : Prop := locationShrinksRow.holds Tryd.pinned (OpenSpec.ofChange locationShrinksWrong)

/-- 'samaritanlaw11.LocationConsistency': WHATEVER THE INPUT: true; the input reads as it did. -/
def locationConsistencySpec : ChangeSpec := { name := "locationConsistency", fn := fun _ => fun
  | [d1, d2] => { results := [.lit (.bool true)], args := [d1, d2] }
  | _ => none }
def locationConsistencyRow : OpenClaim := { program := "ytafpcffhkbeloaadoor", sum := "1ec62c7677109ebc51f78872071e3058153969aa79053c8f81564dd63f472e99", func := "samaritan/samaritanlaw11.LocationConsistency", spec := "locationConsistency", unfollowed := true, recurses := true, named := ["math/bits.deBruijn64tab"], apart := false, laid := [("math/bits.deBruijn64tab", laid_math_bits_deBruijn64tab)] }
def LocationConsistencySaid : Prop := locationConsistencyRow.holds Tryd.pinned (OpenSpec.ofChange locationConsistencySpec)

/-- ITS FALSE NEIGHBOUR: 'it returns false'. Refute it at one input. -/
def locationConsistencyWrong : ChangeSpec := { name := "locationConsistency", fn := fun _ => fun
  | [d1, d2] => { results := [.lit (.bool false)], args := [d1, d2] }
  | _ => none }
def LocationConsistencyWrongFalsely : Prop := locationConsistencyRow.holds Tryd.pinned (OpenSpec.ofChange locationConsistencyWrong)

/-- 'samaritanlaw11.LocationRebuild': WHATEVER THE INPUT: true; the input reads as it did. -/
def locationRebuildSpec : ChangeSpec := { name := "locationRebuild", fn := fun _ => fun
  | [d1, d2] => { results := [.lit (.bool true)], args := [d1, d2] }
  | _ => none }
def locationRebuildRow : OpenClaim := { program := "ytafpcffhkbeloaadoor", sum := "1ec62c7677109ebc51f78872071e3058153969aa79053c8f81564dd63f472e99", func := "samaritan/samaritanlaw11.LocationRebuild", spec := "locationRebuild", unfollowed := true, recurses := true, named := ["math/bits.deBruijn64tab"], apart := false, laid := [("math/bits.deBruijn64tab", laid_math_bits_deBruijn64tab)] }
def LocationRebuildSaid : Prop := locationRebuildRow.holds Tryd.pinned (OpenSpec.ofChange locationRebuildSpec)

/-- ITS FALSE NEIGHBOUR: 'it returns false'. Refute it at one input. -/
def locationRebuildWrong : ChangeSpec := { name := "locationRebuild", fn := fun _ => fun
  | [d1, d2] => { results := [.lit (.bool false)], args := [d1, d2] }
  | _ => none }
def LocationRebuildWrongFalsely : Prop := locationRebuildRow.holds Tryd.pinned (OpenSpec.ofChange locationRebuildWrong)

/-- 'samaritanlaw11.LocationConsistentSources': WHATEVER THE INPUT: true; the input reads as it did. -/
def locationConsistentSourcesSpec : ChangeSpec := { name := "locationConsistentSources", fn := fun _ => fun
  | [d1, d2, d3] => { results := [.lit (.bool true)], args := [d1, d2, d3] }
  | _ => none }
def locationConsistentSourcesRow : OpenClaim := { program := "ytafpcffhkbeloaadoor", sum := "1ec62c7677109ebc51f78872071e3058153969aa79053c8f81564dd63f472e99", func := "samaritan/samaritanlaw11.LocationConsistentSources", spec := "locationConsistentSources", unfollowed := true, recurses := true, named := ["math/bits.deBruijn64tab"], apart := false, laid := [("math/bits.deBruijn64tab", laid_math_bits_deBruijn64tab)] }
def LocationConsistentSourcesSaid : Prop := locationConsistentSourcesRow.holds Tryd.pinned (OpenSpec.ofChange locationConsistentSourcesSpec)

/-- ITS FALSE NEIGHBOUR: 'it returns false'. Refute it at one input. -/
def locationConsistentSourcesWrong : ChangeSpec := { name := "locationConsistentSources", fn := fun _ => fun
  | [d1, d2, d3] => { results := [.lit (.bool false)], args := [d1, d2, d3] }
  | _ => none }
def LocationConsistentSourcesWrongFalsely : Prop := locationConsistentSourcesRow.holds Tryd.pinned (OpenSpec.ofChange locationConsistentSourcesWrong)

/- THE SECOND FORM. 'bulk': how many values and letters a reading holds, each counted each time it is reached (what is shared counts as often as it is met; a slice's spare places count too). A statement '..UptoSaid' is the law's where the arguments, and the package variables that the reading takes, are together of bulk at most 1048576: NARROWER than '..Said'. Prove '..Said' where nothing that the law and all that it calls make is longer than what came in: it says more and counts as full. Else prove '..UptoSaid'. A law counts once. -/
mutual
def uptoBulk {H : Type} : DataW H → Nat
  | .lit (.string bytes) => bytes.length + 1
  | .lit _ => 1
  | .nil => 1
  | .ptr d => uptoBulk d + 1
  | .slice elems spare => uptoBulkAll elems + uptoBulkAll spare + 1
  | .agg parts => uptoBulkAll parts + 1
  | .iface _ d => uptoBulk d + 1
  | .map entries => uptoBulkEntries entries + 1
  | .held _ => 1
def uptoBulkAll {H : Type} : List (DataW H) → Nat
  | [] => 0
  | d :: r => uptoBulk d + uptoBulkAll r
def uptoBulkEntries {H : Type} : List (Lit × DataW H) → Nat
  | [] => 0
  | x :: r => uptoBulkEntry x + uptoBulkEntries r
def uptoBulkEntry {H : Type} : Lit × DataW H → Nat
  | (.string bytes, d) => bytes.length + uptoBulk d + 1
  | (_, d) => uptoBulk d + 1
 end
def uptoSmall : (H : Type) → List (DataW H) → Bool := fun _ ds => decide (uptoBulkAll ds ≤ 1048576)
def OpenSpec.upto (s : _root_.Go.ChangeSpec) : _root_.Go.OpenSpec := { _root_.Go.OpenSpec.ofChange s with cond := some uptoSmall }

/-- 'samaritanlaw11.LocationMatchesModel', WHERE WHAT IT READS IS OF BULK AT MOST 1048576: true; the input reads as it did. -/
def locationMatchesModelUptoRow : OpenClaim := { program := "ytafpcffhkbeloaadoor", sum := "1ec62c7677109ebc51f78872071e3058153969aa79053c8f81564dd63f472e99", func := "samaritan/samaritanlaw11.LocationMatchesModel", spec := "locationMatchesModel", unfollowed := true, recurses := true, named := ["math/bits.deBruijn64tab"], apart := false, laid := [("math/bits.deBruijn64tab", laid_math_bits_deBruijn64tab)], narrowed := true }
def LocationMatchesModelUptoSaid : Prop := locationMatchesModelUptoRow.holds Tryd.pinned (OpenSpec.upto locationMatchesModelSpec)

/-- 'samaritanlaw11.LocationNoAliasing', WHERE WHAT IT READS IS OF BULK AT MOST 1048576: true; the input reads as it did. -/
def locationNoAliasingUptoRow : OpenClaim := { program := "ytafpcffhkbeloaadoor", sum := "1ec62c7677109ebc51f78872071e3058153969aa79053c8f81564dd63f472e99", func := "samaritan/samaritanlaw11.LocationNoAliasing", spec := "locationNoAliasing", unfollowed := true, recurses := true, named := ["math/bits.deBruijn64tab"], apart := false, laid := [("math/bits.deBruijn64tab", laid_math_bits_deBruijn64tab)], narrowed := true }
def LocationNoAliasingUptoSaid : Prop := locationNoAliasingUptoRow.holds Tryd.pinned (OpenSpec.upto locationNoAliasingSpec)

/-- 'samaritanlaw11.LocationShrinks', WHERE WHAT IT READS IS OF BULK AT MOST 1048576: true; the input reads as it did. -/
def locationShrinksUptoRow : OpenClaim := { program := "ytafpcffhkbeloaadoor", sum := "1ec62c7677109ebc51f78872071e3058153969aa79053c8f81564dd63f472e99", func := "samaritan/samaritanlaw11.LocationShrinks", spec := "locationShrinks", unfollowed := true, recurses := true, named := ["math/bits.deBruijn64tab"], apart := false, laid := [("math/bits.deBruijn64tab", laid_math_bits_deBruijn64tab)], narrowed := true }
def LocationShrinksUptoSaid : Prop := locationShrinksUptoRow.holds Tryd.pinned (OpenSpec.upto locationShrinksSpec)

/-- 'samaritanlaw11.LocationConsistency', WHERE WHAT IT READS IS OF BULK AT MOST 1048576: true; the input reads as it did. -/
def locationConsistencyUptoRow : OpenClaim := { program := "ytafpcffhkbeloaadoor", sum := "1ec62c7677109ebc51f78872071e3058153969aa79053c8f81564dd63f472e99", func := "samaritan/samaritanlaw11.LocationConsistency", spec := "locationConsistency", unfollowed := true, recurses := true, named := ["math/bits.deBruijn64tab"], apart := false, laid := [("math/bits.deBruijn64tab", laid_math_bits_deBruijn64tab)], narrowed := true }
def LocationConsistencyUptoSaid : Prop := locationConsistencyUptoRow.holds Tryd.pinned (OpenSpec.upto locationConsistencySpec)

/-- 'samaritanlaw11.LocationRebuild', WHERE WHAT IT READS IS OF BULK AT MOST 1048576: true; the input reads as it did. -/
def locationRebuildUptoRow : OpenClaim := { program := "ytafpcffhkbeloaadoor", sum := "1ec62c7677109ebc51f78872071e3058153969aa79053c8f81564dd63f472e99", func := "samaritan/samaritanlaw11.LocationRebuild", spec := "locationRebuild", unfollowed := true, recurses := true, named := ["math/bits.deBruijn64tab"], apart := false, laid := [("math/bits.deBruijn64tab", laid_math_bits_deBruijn64tab)], narrowed := true }
def LocationRebuildUptoSaid : Prop := locationRebuildUptoRow.holds Tryd.pinned (OpenSpec.upto locationRebuildSpec)

/-- 'samaritanlaw11.LocationConsistentSources', WHERE WHAT IT READS IS OF BULK AT MOST 1048576: true; the input reads as it did. -/
def locationConsistentSourcesUptoRow : OpenClaim := { program := "ytafpcffhkbeloaadoor", sum := "1ec62c7677109ebc51f78872071e3058153969aa79053c8f81564dd63f472e99", func := "samaritan/samaritanlaw11.LocationConsistentSources", spec := "locationConsistentSources", unfollowed := true, recurses := true, named := ["math/bits.deBruijn64tab"], apart := false, laid := [("math/bits.deBruijn64tab", laid_math_bits_deBruijn64tab)], narrowed := true }
def LocationConsistentSourcesUptoSaid : Prop := locationConsistentSourcesUptoRow.holds Tryd.pinned (OpenSpec.upto locationConsistentSourcesSpec)

end Rows
end Go.Proofs.YtafpcffhkbeloaaDoor

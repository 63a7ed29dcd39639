/-
  No cell of these rows narrows 'for every input' (looked for: loops, veiled, ifaces, maps, wideKeys, modest, calm, conditions, laid).
  DERIVED. THE GIVEN ROWS OF THIS SEAT. 6 by the template 'for every input the law returns true; each argument reads behind the call as it read before'; 0 by the template 'total and deterministic' (their statements: YtbjddfiledoaoaaGreatTotals.lean).
  GIVEN WITH THE SEED: the statements are not yours to turn. If you find one false, say at which input.
  Laid BY PROGRAM, IN A SANDBOX (cutbox-rows.mjs): the forced cells as the released guide's own fill.sh prints them over the translation fb9298ad41652400… (all of the seat's roots in one cut). By AI agents, Wed Nov 11 2026. No macro, syntax, notation, axiom, sorry.
-/
import Derived.Test.YtbjddfiledoaoaaGreatChecked
import GoSem.Claim
import GoSem.ClaimJoined
import GoSem.ClaimMapViews
import Derived.JoinedTies
import Derived.KernelRfl
namespace Go.Proofs.YtbjddfiledoaoaaGreat
/- THE CELL 'sum', in the pinned program and in every row, IS THE sha256 OF THE DUMP (.gsa) THAT YtbjddfiledoaoaaGreatProg.lean LOADS. Nothing in Lean hashes anything: it is a label: what it is worth is what the hold of that sum in a sandbox is worth. -/
noncomputable def Tryz.pinned : Pinned := { name := "ytbjddfiledoaoaagreat", sum := "fb9298ad41652400e83e3d0814203b347aacf4f54f9f1a39653c49778f4f2931", checked := Tryz.checked }
namespace Rows
def none {H : Type} : Left H := { results := [], args := [] }

/-- 'samaritanlaw46.ExchangeMatches': WHATEVER THE INPUT: true; the input reads as it did. -/
def exchangeMatchesSpec : ChangeSpec := { name := "exchangeMatches", fn := fun _ => fun
  | [d1, d2] => { results := [.lit (.bool true)], args := [d1, d2] }
  | _ => none }
def exchangeMatchesRow : OpenClaim := { program := "ytbjddfiledoaoaagreat", sum := "fb9298ad41652400e83e3d0814203b347aacf4f54f9f1a39653c49778f4f2931", func := "samaritan/samaritanlaw46.ExchangeMatches", spec := "exchangeMatches", unfollowed := true, recurses := true, apart := false }
def ExchangeMatchesSaid : Prop := exchangeMatchesRow.holds Tryz.pinned (OpenSpec.ofChange exchangeMatchesSpec)

/-- ITS FALSE NEIGHBOUR: 'it returns false'. Refute it at one input. -/
def exchangeMatchesWrong : ChangeSpec := { name := "exchangeMatches", fn := fun _ => fun
  | [d1, d2] => { results := [.lit (.bool false)], args := [d1, d2] }
  | _ => none }
def ExchangeMatchesWrongFalsely : Prop := exchangeMatchesRow.holds Tryz.pinned (OpenSpec.ofChange exchangeMatchesWrong)

/-- 'samaritanlaw46.ExchangeStale': WHATEVER THE INPUT: true; the input reads as it did. -/
def exchangeStaleSpec : ChangeSpec := { name := "exchangeStale", fn := fun _ => fun
  | [d1, d2, d3] => { results := [.lit (.bool true)], args := [d1, d2, d3] }
  | _ => none }
def exchangeStaleRow : OpenClaim := { program := "ytbjddfiledoaoaagreat", sum := "fb9298ad41652400e83e3d0814203b347aacf4f54f9f1a39653c49778f4f2931", func := "samaritan/samaritanlaw46.ExchangeStale", spec := "exchangeStale", unfollowed := true, recurses := true, apart := false }
def ExchangeStaleSaid : Prop := exchangeStaleRow.holds Tryz.pinned (OpenSpec.ofChange exchangeStaleSpec)

/-- ITS FALSE NEIGHBOUR: 'it returns false'. Refute it at one input. -/
def exchangeStaleWrong : ChangeSpec := { name := "exchangeStale", fn := fun _ => fun
  | [d1, d2, d3] => { results := [.lit (.bool false)], args := [d1, d2, d3] }
  | _ => none }
def ExchangeStaleWrongFalsely : Prop := exchangeStaleRow.holds Tryz.pinned (OpenSpec.ofChange exchangeStaleWrong)

/-- 'samaritanlaw46.ExchangeOffers': WHATEVER THE INPUT: true; the input reads as it did. -/
def exchangeOffersSpec : ChangeSpec := { name := "exchangeOffers", fn := fun _ => fun
  | [d1, d2] => { results := [.lit (.bool true)], args := [d1, d2] }
  | _ => none }
def exchangeOffersRow : OpenClaim := { program := "ytbjddfiledoaoaagreat", sum := "fb9298ad41652400e83e3d0814203b347aacf4f54f9f1a39653c49778f4f2931", func := "samaritan/samaritanlaw46.ExchangeOffers", spec := "exchangeOffers", unfollowed := true, recurses := true, apart := false }
def ExchangeOffersSaid : Prop := exchangeOffersRow.holds Tryz.pinned (OpenSpec.ofChange exchangeOffersSpec)

/-- ITS FALSE NEIGHBOUR: 'it returns false'. Refute it at one input. -/
def exchangeOffersWrong : ChangeSpec := { name := "exchangeOffers", fn := fun _ => fun
  | [d1, d2] => { results := [.lit (.bool false)], args := [d1, d2] }
  | _ => none }
def ExchangeOffersWrongFalsely : Prop := exchangeOffersRow.holds Tryz.pinned (OpenSpec.ofChange exchangeOffersWrong)

/-- 'samaritanlaw46.ExchangeKeeps': WHATEVER THE INPUT: true; the input reads as it did. -/
def exchangeKeepsSpec : ChangeSpec := { name := "exchangeKeeps", fn := fun _ => fun
  | [d] => { results := [.lit (.bool true)], args := [d] }
  | _ => none }
def exchangeKeepsRow : OpenClaim := { program := "ytbjddfiledoaoaagreat", sum := "fb9298ad41652400e83e3d0814203b347aacf4f54f9f1a39653c49778f4f2931", func := "samaritan/samaritanlaw46.ExchangeKeeps", spec := "exchangeKeeps", unfollowed := true, recurses := true, apart := false }
def ExchangeKeepsSaid : Prop := exchangeKeepsRow.holds Tryz.pinned (OpenSpec.ofChange exchangeKeepsSpec)

/-- ITS FALSE NEIGHBOUR: 'it returns false'. Refute it at one input. -/
def exchangeKeepsWrong : ChangeSpec := { name := "exchangeKeeps", fn := fun _ => fun
  | [d] => { results := [.lit (.bool false)], args := [d] }
  | _ => none }
def ExchangeKeepsWrongFalsely : Prop := exchangeKeepsRow.holds Tryz.pinned (OpenSpec.ofChange exchangeKeepsWrong)

/-- 'samaritanlaw46.ExchangeOwner': WHATEVER THE INPUT: true; the input reads as it did. -/
def exchangeOwnerSpec : ChangeSpec := { name := "exchangeOwner", fn := fun _ => fun
  | [d1, d2] => { results := [.lit (.bool true)], args := [d1, d2] }
  | _ => none }
def exchangeOwnerRow : OpenClaim := { program := "ytbjddfiledoaoaagreat", sum := "fb9298ad41652400e83e3d0814203b347aacf4f54f9f1a39653c49778f4f2931", func := "samaritan/samaritanlaw46.ExchangeOwner", spec := "exchangeOwner", unfollowed := true, recurses := true, apart := false }
def ExchangeOwnerSaid : Prop := exchangeOwnerRow.holds Tryz.pinned (OpenSpec.ofChange exchangeOwnerSpec)

/-- ITS FALSE NEIGHBOUR: 'it returns false'. Refute it at one input. -/
def exchangeOwnerWrong : ChangeSpec := { name := "exchangeOwner", fn := fun _ => fun
  | [d1, d2] => { results := [.lit (.bool false)], args := [d1, d2] }
  | _ => none }
def ExchangeOwnerWrongFalsely : Prop := exchangeOwnerRow.holds Tryz.pinned (OpenSpec.ofChange exchangeOwnerWrong)

/-- 'samaritanlaw46.ExchangeLookup': WHATEVER THE INPUT: true; the input reads as it did. -/
def exchangeLookupSpec : ChangeSpec := { name := "exchangeLookup", fn := fun _ => fun
  | [d1, d2, d3] => { results := [.lit (.bool true)], args := [d1, d2, d3] }
  | _ => none }
def exchangeLookupRow : OpenClaim := { program := "ytbjddfiledoaoaagreat", sum := "fb9298ad41652400e83e3d0814203b347aacf4f54f9f1a39653c49778f4f2931", func := "samaritan/samaritanlaw46.ExchangeLookup", spec := "exchangeLookup", unfollowed := true, recurses := true, apart := false }
def ExchangeLookupSaid : Prop := exchangeLookupRow.holds Tryz.pinned (OpenSpec.ofChange exchangeLookupSpec)

/-- ITS FALSE NEIGHBOUR: 'it returns false'. Refute it at one input. -/
def exchangeLookupWrong : ChangeSpec := { name := "exchangeLookup", fn := fun _ => fun
  | [d1, d2, d3] => { results := [.lit (.bool false)], args := [d1, d2, d3] }
  | _ => none }
def ExchangeLookupWrongFalsely : Prop := exchangeLookupRow.holds Tryz.pinned (OpenSpec.ofChange exchangeLookupWrong)

/- THE SECOND FORM. 'bulk': how many values and letters a reading holds, each counted each time it is reached (what is shared counts as often as it is met; a slice's spare places count too). A statement '..UptoSaid' is the law's where the arguments, and the package variables that the reading takes, are together of bulk at most 1048576: NARROWER than '..Said'. Prove '..Said' where nothing that the law and all that it calls make is longer than what came in: it says more and counts as full. Else prove '..UptoSaid'. A law counts once. -/
mutual
def uptoBulk {H : Type} : DataW H → Nat
  | .lit (.string bytes) => bytes.length + 1
  | .lit _ => 1
  | .nil => 1
  | .ptr d => uptoBulk d + 1
  | .slice elems spare => uptoBulkAll elems + uptoBulkAll spare + 1
  | .agg parts => uptoBulkAll parts + 1
  | .iface _ d => uptoBulk d + 1
  | .map entries => uptoBulkEntries entries + 1
  | .held _ => 1
def uptoBulkAll {H : Type} : List (DataW H) → Nat
  | [] => 0
  | d :: r => uptoBulk d + uptoBulkAll r
def uptoBulkEntries {H : Type} : List (Lit × DataW H) → Nat
  | [] => 0
  | x :: r => uptoBulkEntry x + uptoBulkEntries r
def uptoBulkEntry {H : Type} : Lit × DataW H → Nat
  | (.string bytes, d) => bytes.length + uptoBulk d + 1
  | (_, d) => uptoBulk d + 1
 end
def uptoSmall : (H : Type) → List (DataW H) → Bool := fun _ ds => decide (uptoBulkAll ds ≤ 1048576)
def OpenSpec.upto (s : _root_.Go.ChangeSpec) : _root_.Go.OpenSpec := { _root_.Go.OpenSpec.ofChange s with cond := some uptoSmall }

/-- 'samaritanlaw46.ExchangeMatches', WHERE WHAT IT READS IS OF BULK AT MOST 1048576: true; the input reads as it did. -/
def exchangeMatchesUptoRow : OpenClaim := { program := "ytbjddfiledoaoaagreat", sum := "fb9298ad41652400e83e3d0814203b347aacf4f54f9f1a39653c49778f4f2931", func := "samaritan/samaritanlaw46.ExchangeMatches", spec := "exchangeMatches", unfollowed := true, recurses := true, apart := false, narrowed := true }
def ExchangeMatchesUptoSaid : Prop := exchangeMatchesUptoRow.holds Tryz.pinned (OpenSpec.upto exchangeMatchesSpec)

/-- 'samaritanlaw46.ExchangeStale', WHERE WHAT IT READS IS OF BULK AT MOST 1048576: true; the input reads as it did. -/
def exchangeStaleUptoRow : OpenClaim := { program := "ytbjddfiledoaoaagreat", sum := "fb9298ad41652400e83e3d0814203b347aacf4f54f9f1a39653c49778f4f2931", func := "samaritan/samaritanlaw46.ExchangeStale", spec := "exchangeStale", unfollowed := true, recurses := true, apart := false, narrowed := true }
def ExchangeStaleUptoSaid : Prop := exchangeStaleUptoRow.holds Tryz.pinned (OpenSpec.upto exchangeStaleSpec)

/-- 'samaritanlaw46.ExchangeOffers', WHERE WHAT IT READS IS OF BULK AT MOST 1048576: true; the input reads as it did. -/
def exchangeOffersUptoRow : OpenClaim := { program := "ytbjddfiledoaoaagreat", sum := "fb9298ad41652400e83e3d0814203b347aacf4f54f9f1a39653c49778f4f2931", func := "samaritan/samaritanlaw46.ExchangeOffers", spec := "exchangeOffers", unfollowed := true, recurses := true, apart := false, narrowed := true }
def ExchangeOffersUptoSaid : Prop := exchangeOffersUptoRow.holds Tryz.pinned (OpenSpec.upto exchangeOffersSpec)

/-- 'samaritanlaw46.ExchangeKeeps', WHERE WHAT IT READS IS OF BULK AT MOST 1048576: true; the input reads as it did. -/
def exchangeKeepsUptoRow : OpenClaim := { program := "ytbjddfiledoaoaagreat", sum := "fb9298ad41652400e83e3d0814203b347aacf4f54f9f1a39653c49778f4f2931", func := "samaritan/samaritanlaw46.ExchangeKeeps", spec := "exchangeKeeps", unfollowed := true, recurses := true, apart := false, narrowed := true }
def ExchangeKeepsUptoSaid : Prop := exchangeKeepsUptoRow.holds Tryz.pinned (OpenSpec.upto exchangeKeepsSpec)

/-- 'samaritanlaw46.ExchangeOwner', WHERE WHAT IT READS IS OF BULK AT MOST 1048576: true; the input reads as it did. -/
def exchangeOwnerUptoRow : OpenClaim := { program := "ytbjddfiledoaoaagreat", sum := "fb9298ad41652400e83e3d0814203b347aacf4f54f9f1a39653c49778f4f2931", func := "samaritan/samaritanlaw46.ExchangeOwner", spec := "exchangeOwner", unfollowed := true, recurses := true, apart := false, narrowed := true }
def ExchangeOwnerUptoSaid : Prop := exchangeOwnerUptoRow.holds Tryz.pinned (OpenSpec.upto exchangeOwnerSpec)

/-- 'samaritanlaw46.ExchangeLookup', WHERE WHAT IT READS IS OF BULK AT MOST 1048576: true; the input reads as it did. -/
def exchangeLookupUptoRow : OpenClaim := { program := "ytbjddfiledoaoaagreat", sum := "fb9298ad41652400e83e3d0814203b347aacf4f54f9f1a39653c49778f4f2931", func := "samaritan/samaritanlaw46.ExchangeLookup", spec := "exchangeLookup", unfollowed := true, recurses := true, apart := false, narrowed := true }
def ExchangeLookupUptoSaid : Prop := exchangeLookupUptoRow.holds Tryz.pinned (OpenSpec.upto exchangeLookupSpec)

end Rows
end Go.Proofs.YtbjddfiledoaoaaGreat

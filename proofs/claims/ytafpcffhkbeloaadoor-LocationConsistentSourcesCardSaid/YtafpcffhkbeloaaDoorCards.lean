/-
  DERIVED. GIVEN WITH THE SEED: THE CARDS: each row of YtafpcffhkbeloaaDoorRows.lean that lists a variable, with what it lists TIED to the program's text (the seventh form; the later family's looks); each row that meets fmt, with fmt's text TOLD by the authors' own Lean function (tested against real Go, not proved from fmt's source: count such statements apart). THE CARD IS WHAT COUNTS. Prove the row's statement (the work); the ties are given (YtafpcffhkbeloaaDoorTie.lean); close each card by the builder's one call (the guide's Derived/Test/ToyasCard.lean, 'card_holds'). Laid BY PROGRAM, IN A SANDBOX (cutbox-door.mjs). By AI agents, Wed Nov 11 2026. No macro, syntax, notation, axiom, sorry.
-/
import Derived.Test.YtafpcffhkbeloaaDoorRows
import GoSem.ClaimSeven
namespace Go.Proofs.YtafpcffhkbeloaaDoor
namespace Rows

/-- THE TIED CARD OF 'samaritanlaw11.LocationMatchesModel'. -/
def locationMatchesModelCard : Claim7 := { stood := { row := locationMatchesModelRow, standIns := [], harness := (true, "d72513765d48dacb50445919b301d5732a04a7346b85253f1b0dbf38ba1db6a7"), looks := false }, kinds := [], alts := [], laidByText := true, laidKinds := [.data], laidTests := true, laidLooks := .later }
def LocationMatchesModelCardSaid : Prop := Claim7.holds Tryd.pinned (.plain (OpenSpec.ofChange locationMatchesModelSpec)) locationMatchesModelCard

/-- THE TIED CARD OF 'samaritanlaw11.LocationNoAliasing'. -/
def locationNoAliasingCard : Claim7 := { stood := { row := locationNoAliasingRow, standIns := [], harness := (true, "d72513765d48dacb50445919b301d5732a04a7346b85253f1b0dbf38ba1db6a7"), looks := false }, kinds := [], alts := [], laidByText := true, laidKinds := [.data], laidTests := true, laidLooks := .later }
def LocationNoAliasingCardSaid : Prop := Claim7.holds Tryd.pinned (.plain (OpenSpec.ofChange locationNoAliasingSpec)) locationNoAliasingCard

/-- THE TIED CARD OF 'samaritanlaw11.LocationShrinks'. -/
def locationShrinksCard : Claim7 := { stood := { row := locationShrinksRow, standIns := [], harness := (true, "d72513765d48dacb50445919b301d5732a04a7346b85253f1b0dbf38ba1db6a7"), looks := false }, kinds := [], alts := [], laidByText := true, laidKinds := [.data], laidTests := true, laidLooks := .later }
def LocationShrinksCardSaid : Prop := Claim7.holds Tryd.pinned (.plain (OpenSpec.ofChange locationShrinksSpec)) locationShrinksCard

/-- THE TIED CARD OF 'samaritanlaw11.LocationConsistency'. -/
def locationConsistencyCard : Claim7 := { stood := { row := locationConsistencyRow, standIns := [], harness := (true, "d72513765d48dacb50445919b301d5732a04a7346b85253f1b0dbf38ba1db6a7"), looks := false }, kinds := [], alts := [], laidByText := true, laidKinds := [.data], laidTests := true, laidLooks := .later }
def LocationConsistencyCardSaid : Prop := Claim7.holds Tryd.pinned (.plain (OpenSpec.ofChange locationConsistencySpec)) locationConsistencyCard

/-- THE TIED CARD OF 'samaritanlaw11.LocationRebuild'. -/
def locationRebuildCard : Claim7 := { stood := { row := locationRebuildRow, standIns := [], harness := (true, "d72513765d48dacb50445919b301d5732a04a7346b85253f1b0dbf38ba1db6a7"), looks := false }, kinds := [], alts := [], laidByText := true, laidKinds := [.data], laidTests := true, laidLooks := .later }
def LocationRebuildCardSaid : Prop := Claim7.holds Tryd.pinned (.plain (OpenSpec.ofChange locationRebuildSpec)) locationRebuildCard

/-- THE TIED CARD OF 'samaritanlaw11.LocationConsistentSources'. -/
def locationConsistentSourcesCard : Claim7 := { stood := { row := locationConsistentSourcesRow, standIns := [], harness := (true, "d72513765d48dacb50445919b301d5732a04a7346b85253f1b0dbf38ba1db6a7"), looks := false }, kinds := [], alts := [], laidByText := true, laidKinds := [.data], laidTests := true, laidLooks := .later }
def LocationConsistentSourcesCardSaid : Prop := Claim7.holds Tryd.pinned (.plain (OpenSpec.ofChange locationConsistentSourcesSpec)) locationConsistentSourcesCard

/-- THE SECOND FORM's CARD OF 'samaritanlaw11.LocationMatchesModel'. -/
def locationMatchesModelUptoCard : Claim7 := { stood := { row := locationMatchesModelUptoRow, standIns := [], harness := (true, "d72513765d48dacb50445919b301d5732a04a7346b85253f1b0dbf38ba1db6a7"), looks := false }, kinds := [], alts := [], laidByText := true, laidKinds := [.data], laidTests := true, laidLooks := .later }
def LocationMatchesModelUptoCardSaid : Prop := Claim7.holds Tryd.pinned (.plain (OpenSpec.upto locationMatchesModelSpec)) locationMatchesModelUptoCard

/-- THE SECOND FORM's CARD OF 'samaritanlaw11.LocationNoAliasing'. -/
def locationNoAliasingUptoCard : Claim7 := { stood := { row := locationNoAliasingUptoRow, standIns := [], harness := (true, "d72513765d48dacb50445919b301d5732a04a7346b85253f1b0dbf38ba1db6a7"), looks := false }, kinds := [], alts := [], laidByText := true, laidKinds := [.data], laidTests := true, laidLooks := .later }
def LocationNoAliasingUptoCardSaid : Prop := Claim7.holds Tryd.pinned (.plain (OpenSpec.upto locationNoAliasingSpec)) locationNoAliasingUptoCard

/-- THE SECOND FORM's CARD OF 'samaritanlaw11.LocationShrinks'. -/
def locationShrinksUptoCard : Claim7 := { stood := { row := locationShrinksUptoRow, standIns := [], harness := (true, "d72513765d48dacb50445919b301d5732a04a7346b85253f1b0dbf38ba1db6a7"), looks := false }, kinds := [], alts := [], laidByText := true, laidKinds := [.data], laidTests := true, laidLooks := .later }
def LocationShrinksUptoCardSaid : Prop := Claim7.holds Tryd.pinned (.plain (OpenSpec.upto locationShrinksSpec)) locationShrinksUptoCard

/-- THE SECOND FORM's CARD OF 'samaritanlaw11.LocationConsistency'. -/
def locationConsistencyUptoCard : Claim7 := { stood := { row := locationConsistencyUptoRow, standIns := [], harness := (true, "d72513765d48dacb50445919b301d5732a04a7346b85253f1b0dbf38ba1db6a7"), looks := false }, kinds := [], alts := [], laidByText := true, laidKinds := [.data], laidTests := true, laidLooks := .later }
def LocationConsistencyUptoCardSaid : Prop := Claim7.holds Tryd.pinned (.plain (OpenSpec.upto locationConsistencySpec)) locationConsistencyUptoCard

/-- THE SECOND FORM's CARD OF 'samaritanlaw11.LocationRebuild'. -/
def locationRebuildUptoCard : Claim7 := { stood := { row := locationRebuildUptoRow, standIns := [], harness := (true, "d72513765d48dacb50445919b301d5732a04a7346b85253f1b0dbf38ba1db6a7"), looks := false }, kinds := [], alts := [], laidByText := true, laidKinds := [.data], laidTests := true, laidLooks := .later }
def LocationRebuildUptoCardSaid : Prop := Claim7.holds Tryd.pinned (.plain (OpenSpec.upto locationRebuildSpec)) locationRebuildUptoCard

/-- THE SECOND FORM's CARD OF 'samaritanlaw11.LocationConsistentSources'. -/
def locationConsistentSourcesUptoCard : Claim7 := { stood := { row := locationConsistentSourcesUptoRow, standIns := [], harness := (true, "d72513765d48dacb50445919b301d5732a04a7346b85253f1b0dbf38ba1db6a7"), looks := false }, kinds := [], alts := [], laidByText := true, laidKinds := [.data], laidTests := true, laidLooks := .later }
def LocationConsistentSourcesUptoCardSaid : Prop := Claim7.holds Tryd.pinned (.plain (OpenSpec.upto locationConsistentSourcesSpec)) locationConsistentSourcesUptoCard
end Rows
end Go.Proofs.YtafpcffhkbeloaaDoor

/-
  DERIVED. GIVEN WITH THE SEED: THE CARDS: each row of YtnejacmmbfeneaaDoorRows.lean that lists a variable, with what it lists TIED to the program's text (the seventh form; the later family's looks); each row that meets fmt, with fmt's text TOLD by the authors' own Lean function (tested against real Go, not proved from fmt's source: count such statements apart). THE CARD IS WHAT COUNTS. Prove the row's statement (the work); the ties are given (YtnejacmmbfeneaaDoorTie.lean); close each card by the builder's one call (the guide's Derived/Test/ToyasCard.lean, 'card_holds'). Laid BY PROGRAM, IN A SANDBOX (cutbox-door.mjs). By AI agents, Wed Nov 11 2026. No macro, syntax, notation, axiom, sorry.
-/
import Derived.Test.YtnejacmmbfeneaaDoorRows
import GoSem.ClaimSeven
namespace Go.Proofs.YtnejacmmbfeneaaDoor
namespace Rows

/-- THE TIED CARD OF 'samaritanlaw50.ScenarioConfig'. -/
def scenarioConfigCard : Claim7 := { stood := { row := scenarioConfigRow, standIns := [], harness := (true, "a45d292b28ed7a36293ba2a22e2fa0c2a14e851900b79b7afb6eb12460ab3fda"), looks := false }, kinds := [], alts := [], laidByText := true, laidKinds := [.data], laidTests := true, laidLooks := .later }
def ScenarioConfigCardSaid : Prop := Claim7.holds Tryd.pinned (.plain (OpenSpec.ofChange scenarioConfigSpec)) scenarioConfigCard

/-- THE SECOND FORM's CARD OF 'samaritanlaw50.ScenarioConfig'. -/
def scenarioConfigUptoCard : Claim7 := { stood := { row := scenarioConfigUptoRow, standIns := [], harness := (true, "a45d292b28ed7a36293ba2a22e2fa0c2a14e851900b79b7afb6eb12460ab3fda"), looks := false }, kinds := [], alts := [], laidByText := true, laidKinds := [.data], laidTests := true, laidLooks := .later }
def ScenarioConfigUptoCardSaid : Prop := Claim7.holds Tryd.pinned (.plain (OpenSpec.upto scenarioConfigSpec)) scenarioConfigUptoCard
end Rows
end Go.Proofs.YtnejacmmbfeneaaDoor

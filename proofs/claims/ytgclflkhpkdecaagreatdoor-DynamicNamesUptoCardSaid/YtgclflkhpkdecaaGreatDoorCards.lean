/-
  DERIVED. GIVEN WITH THE SEED: THE CARDS: each row of YtgclflkhpkdecaaGreatDoorRows.lean that lists a variable, with what it lists TIED to the program's text (the seventh form; the later family's looks); each row that meets fmt, with fmt's text TOLD by the authors' own Lean function (tested against real Go, not proved from fmt's source: count such statements apart). THE CARD IS WHAT COUNTS. Prove the row's statement (the work); the ties are given (YtgclflkhpkdecaaGreatDoorTie.lean); close each card by the builder's one call (the guide's Derived/Test/ToyasCard.lean, 'card_holds'). Laid BY PROGRAM, IN A SANDBOX (cutbox-door.mjs). By AI agents, Wed Nov 11 2026. No macro, syntax, notation, axiom, sorry.
-/
import Derived.Test.YtgclflkhpkdecaaGreatDoorRows
import GoSem.ClaimSeven
namespace Go.Proofs.YtgclflkhpkdecaaGreatDoor
namespace Rows

/-- THE TIED CARD OF 'pipelinelaw20.DynamicNames'. -/
def dynamicNamesCard : Claim7 := { stood := { row := dynamicNamesRow, standIns := [], harness := (true, "84ea4bbc949ef2ec45d6921da6a2f33a37fba5c59996340bbb526ea650c99d9f"), looks := true }, kinds := [], alts := [], laidByText := true, laidKinds := [.pinned, .data, .sentinel, .sentinel, .data, .data, .data, .data], laidTests := true, laidLooks := .later }
def DynamicNamesCardSaid : Prop := Claim7.holds Tryz.pinned (.plain (OpenSpec.ofChange dynamicNamesSpec)) dynamicNamesCard

/-- THE SECOND FORM's CARD OF 'pipelinelaw20.DynamicNames'. -/
def dynamicNamesUptoCard : Claim7 := { stood := { row := dynamicNamesUptoRow, standIns := [], harness := (true, "84ea4bbc949ef2ec45d6921da6a2f33a37fba5c59996340bbb526ea650c99d9f"), looks := true }, kinds := [], alts := [], laidByText := true, laidKinds := [.pinned, .data, .sentinel, .sentinel, .data, .data, .data, .data], laidTests := true, laidLooks := .later }
def DynamicNamesUptoCardSaid : Prop := Claim7.holds Tryz.pinned (.plain (OpenSpec.upto dynamicNamesSpec)) dynamicNamesUptoCard
end Rows
end Go.Proofs.YtgclflkhpkdecaaGreatDoor

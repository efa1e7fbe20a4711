/-
  DERIVED. GIVEN WITH THE SEED: THE CARDS: each row of YtbcillkajdnljaaGreatDoorRows.lean that lists a variable, with what it lists TIED to the program's text (the seventh form; the later family's looks); each row that meets fmt, with fmt's text TOLD by the authors' own Lean function (tested against real Go, not proved from fmt's source: count such statements apart). THE CARD IS WHAT COUNTS. Prove the row's statement (the work); the ties are given (YtbcillkajdnljaaGreatDoorTie.lean); close each card by the builder's one call (the guide's Derived/Test/ToyasCard.lean, 'card_holds'). Laid BY PROGRAM, IN A SANDBOX (cutbox-door.mjs). By AI agents, Wed Nov 11 2026. No macro, syntax, notation, axiom, sorry.
-/
import Derived.Test.YtbcillkajdnljaaGreatDoorRows
import GoSem.ClaimSeven
namespace Go.Proofs.YtbcillkajdnljaaGreatDoor
namespace Rows

/-- THE TIED CARD OF 'pipelinelaw50.OutcomeOf'. -/
def outcomeOfCard : Claim7 := { stood := { row := outcomeOfRow, standIns := [], harness := (true, "6bcb2d8a631c2718ada64b7bcd2cb6406c64070d1f4118ea3b414515eeed2a80"), looks := true }, kinds := [], alts := [], laidByText := true, laidKinds := [.pinned, .data, .sentinel, .sentinel, .data, .data, .data, .data], laidTests := true, laidLooks := .later }
def OutcomeOfCardSaid : Prop := Claim7.holds Tryz.pinned (.plain (OpenSpec.ofChange outcomeOfSpec)) outcomeOfCard

/-- THE SECOND FORM's CARD OF 'pipelinelaw50.OutcomeOf'. -/
def outcomeOfUptoCard : Claim7 := { stood := { row := outcomeOfUptoRow, standIns := [], harness := (true, "6bcb2d8a631c2718ada64b7bcd2cb6406c64070d1f4118ea3b414515eeed2a80"), looks := true }, kinds := [], alts := [], laidByText := true, laidKinds := [.pinned, .data, .sentinel, .sentinel, .data, .data, .data, .data], laidTests := true, laidLooks := .later }
def OutcomeOfUptoCardSaid : Prop := Claim7.holds Tryz.pinned (.plain (OpenSpec.upto outcomeOfSpec)) outcomeOfUptoCard
end Rows
end Go.Proofs.YtbcillkajdnljaaGreatDoor

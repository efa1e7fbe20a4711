/-
  DERIVED. GIVEN WITH THE SEED: THE CARDS: each row of YteeohmopbcjifaaGreatDoorRows.lean that lists a variable, with what it lists TIED to the program's text (the seventh form; the later family's looks); each row that meets fmt, with fmt's text TOLD by the authors' own Lean function (tested against real Go, not proved from fmt's source: count such statements apart). THE CARD IS WHAT COUNTS. Prove the row's statement (the work); the ties are given (YteeohmopbcjifaaGreatDoorTie.lean); close each card by the builder's one call (the guide's Derived/Test/ToyasCard.lean, 'card_holds'). Laid BY PROGRAM, IN A SANDBOX (cutbox-door.mjs). By AI agents, Wed Nov 11 2026. No macro, syntax, notation, axiom, sorry.
-/
import Derived.Test.YteeohmopbcjifaaGreatDoorRows
import GoSem.ClaimSeven
namespace Go.Proofs.YteeohmopbcjifaaGreatDoor
namespace Rows

/-- THE TIED CARD OF 'pipelinelaw48.SnapshotDamage'. -/
def snapshotDamageCard : Claim7 := { stood := { row := snapshotDamageRow, standIns := [], harness := (true, "94e184f7ca31823f58bc0a54c2053889cce9afbcecb37606be6055ae19a15334"), looks := true }, kinds := [], alts := [], laidByText := true, laidKinds := [.data, .data, .data, .data, .sentinel, .sentinel, .pinned], laidTests := true, laidLooks := .later }
def SnapshotDamageCardSaid : Prop := Claim7.holds Tryz.pinned (.plain (OpenSpec.ofChange snapshotDamageSpec)) snapshotDamageCard

/-- THE SECOND FORM's CARD OF 'pipelinelaw48.SnapshotDamage'. -/
def snapshotDamageUptoCard : Claim7 := { stood := { row := snapshotDamageUptoRow, standIns := [], harness := (true, "94e184f7ca31823f58bc0a54c2053889cce9afbcecb37606be6055ae19a15334"), looks := true }, kinds := [], alts := [], laidByText := true, laidKinds := [.data, .data, .data, .data, .sentinel, .sentinel, .pinned], laidTests := true, laidLooks := .later }
def SnapshotDamageUptoCardSaid : Prop := Claim7.holds Tryz.pinned (.plain (OpenSpec.upto snapshotDamageSpec)) snapshotDamageUptoCard
end Rows
end Go.Proofs.YteeohmopbcjifaaGreatDoor

/-
  DERIVED. GIVEN WITH THE SEED: THE CARDS: each row of YthnoiikjfcnlhaaGreatDoorRows.lean that lists a variable, with what it lists TIED to the program's text (the seventh form; the later family's looks); each row that meets fmt, with fmt's text TOLD by the authors' own Lean function (tested against real Go, not proved from fmt's source: count such statements apart). THE CARD IS WHAT COUNTS. Prove the row's statement (the work); the ties are given (YthnoiikjfcnlhaaGreatDoorTie.lean); close each card by the builder's one call (the guide's Derived/Test/ToyasCard.lean, 'card_holds'). Laid BY PROGRAM, IN A SANDBOX (cutbox-door.mjs). By AI agents, Wed Nov 11 2026. No macro, syntax, notation, axiom, sorry.
-/
import Derived.Test.YthnoiikjfcnlhaaGreatDoorRows
import GoSem.ClaimSeven
namespace Go.Proofs.YthnoiikjfcnlhaaGreatDoor
namespace Rows

/-- THE TIED CARD OF 'pipelinelaw14.ConfigParses'. -/
def configParsesCard : Claim7 := { stood := { row := configParsesRow, standIns := [], harness := (true, "0fde6491373d801a479582368b26f9bf8ccaa4f52c2eccf57a58ef38927ebe18"), looks := true }, kinds := [], alts := [], laidByText := true, laidKinds := [.data, .data, .data, .data, .sentinel, .sentinel, .pinned], laidTests := true, laidLooks := .later }
def ConfigParsesCardSaid : Prop := Claim7.holds Tryz.pinned (.plain (OpenSpec.ofChange configParsesSpec)) configParsesCard

/-- THE TIED CARD OF 'pipelinelaw14.ConfigShows'. -/
def configShowsCard : Claim7 := { stood := { row := configShowsRow, standIns := [], harness := (true, "0fde6491373d801a479582368b26f9bf8ccaa4f52c2eccf57a58ef38927ebe18"), looks := true }, kinds := [], alts := [], laidByText := true, laidKinds := [.data, .data, .data, .data, .sentinel, .sentinel, .pinned], laidTests := true, laidLooks := .later }
def ConfigShowsCardSaid : Prop := Claim7.holds Tryz.pinned (.plain (OpenSpec.ofChange configShowsSpec)) configShowsCard

/-- THE TIED CARD OF 'pipelinelaw14.ConfigFinds'. -/
def configFindsCard : Claim7 := { stood := { row := configFindsRow, standIns := [], harness := (true, "0fde6491373d801a479582368b26f9bf8ccaa4f52c2eccf57a58ef38927ebe18"), looks := true }, kinds := [], alts := [], laidByText := true, laidKinds := [.data, .data, .data, .data, .sentinel, .sentinel, .pinned], laidTests := true, laidLooks := .later }
def ConfigFindsCardSaid : Prop := Claim7.holds Tryz.pinned (.plain (OpenSpec.ofChange configFindsSpec)) configFindsCard

/-- THE TIED CARD OF 'pipelinelaw14.ConfigBack'. -/
def configBackCard : Claim7 := { stood := { row := configBackRow, standIns := [], harness := (true, "0fde6491373d801a479582368b26f9bf8ccaa4f52c2eccf57a58ef38927ebe18"), looks := true }, kinds := [], alts := [], laidByText := true, laidKinds := [.data, .data, .data, .data, .sentinel, .sentinel, .pinned], laidTests := true, laidLooks := .later }
def ConfigBackCardSaid : Prop := Claim7.holds Tryz.pinned (.plain (OpenSpec.ofChange configBackSpec)) configBackCard

/-- THE TIED CARD OF 'pipelinelaw14.ConfigLines'. -/
def configLinesCard : Claim7 := { stood := { row := configLinesRow, standIns := [], harness := (true, "0fde6491373d801a479582368b26f9bf8ccaa4f52c2eccf57a58ef38927ebe18"), looks := true }, kinds := [], alts := [], laidByText := true, laidKinds := [.data, .data, .data, .data, .sentinel, .sentinel, .pinned], laidTests := true, laidLooks := .later }
def ConfigLinesCardSaid : Prop := Claim7.holds Tryz.pinned (.plain (OpenSpec.ofChange configLinesSpec)) configLinesCard

/-- THE TIED CARD OF 'pipelinelaw14.ConfigJoins'. -/
def configJoinsCard : Claim7 := { stood := { row := configJoinsRow, standIns := [], harness := (true, "0fde6491373d801a479582368b26f9bf8ccaa4f52c2eccf57a58ef38927ebe18"), looks := true }, kinds := [], alts := [], laidByText := true, laidKinds := [.data, .data, .data, .data, .sentinel, .sentinel, .pinned], laidTests := true, laidLooks := .later }
def ConfigJoinsCardSaid : Prop := Claim7.holds Tryz.pinned (.plain (OpenSpec.ofChange configJoinsSpec)) configJoinsCard

/-- THE SECOND FORM's CARD OF 'pipelinelaw14.ConfigParses'. -/
def configParsesUptoCard : Claim7 := { stood := { row := configParsesUptoRow, standIns := [], harness := (true, "0fde6491373d801a479582368b26f9bf8ccaa4f52c2eccf57a58ef38927ebe18"), looks := true }, kinds := [], alts := [], laidByText := true, laidKinds := [.data, .data, .data, .data, .sentinel, .sentinel, .pinned], laidTests := true, laidLooks := .later }
def ConfigParsesUptoCardSaid : Prop := Claim7.holds Tryz.pinned (.plain (OpenSpec.upto configParsesSpec)) configParsesUptoCard

/-- THE SECOND FORM's CARD OF 'pipelinelaw14.ConfigShows'. -/
def configShowsUptoCard : Claim7 := { stood := { row := configShowsUptoRow, standIns := [], harness := (true, "0fde6491373d801a479582368b26f9bf8ccaa4f52c2eccf57a58ef38927ebe18"), looks := true }, kinds := [], alts := [], laidByText := true, laidKinds := [.data, .data, .data, .data, .sentinel, .sentinel, .pinned], laidTests := true, laidLooks := .later }
def ConfigShowsUptoCardSaid : Prop := Claim7.holds Tryz.pinned (.plain (OpenSpec.upto configShowsSpec)) configShowsUptoCard

/-- THE SECOND FORM's CARD OF 'pipelinelaw14.ConfigFinds'. -/
def configFindsUptoCard : Claim7 := { stood := { row := configFindsUptoRow, standIns := [], harness := (true, "0fde6491373d801a479582368b26f9bf8ccaa4f52c2eccf57a58ef38927ebe18"), looks := true }, kinds := [], alts := [], laidByText := true, laidKinds := [.data, .data, .data, .data, .sentinel, .sentinel, .pinned], laidTests := true, laidLooks := .later }
def ConfigFindsUptoCardSaid : Prop := Claim7.holds Tryz.pinned (.plain (OpenSpec.upto configFindsSpec)) configFindsUptoCard

/-- THE SECOND FORM's CARD OF 'pipelinelaw14.ConfigBack'. -/
def configBackUptoCard : Claim7 := { stood := { row := configBackUptoRow, standIns := [], harness := (true, "0fde6491373d801a479582368b26f9bf8ccaa4f52c2eccf57a58ef38927ebe18"), looks := true }, kinds := [], alts := [], laidByText := true, laidKinds := [.data, .data, .data, .data, .sentinel, .sentinel, .pinned], laidTests := true, laidLooks := .later }
def ConfigBackUptoCardSaid : Prop := Claim7.holds Tryz.pinned (.plain (OpenSpec.upto configBackSpec)) configBackUptoCard

/-- THE SECOND FORM's CARD OF 'pipelinelaw14.ConfigLines'. -/
def configLinesUptoCard : Claim7 := { stood := { row := configLinesUptoRow, standIns := [], harness := (true, "0fde6491373d801a479582368b26f9bf8ccaa4f52c2eccf57a58ef38927ebe18"), looks := true }, kinds := [], alts := [], laidByText := true, laidKinds := [.data, .data, .data, .data, .sentinel, .sentinel, .pinned], laidTests := true, laidLooks := .later }
def ConfigLinesUptoCardSaid : Prop := Claim7.holds Tryz.pinned (.plain (OpenSpec.upto configLinesSpec)) configLinesUptoCard

/-- THE SECOND FORM's CARD OF 'pipelinelaw14.ConfigJoins'. -/
def configJoinsUptoCard : Claim7 := { stood := { row := configJoinsUptoRow, standIns := [], harness := (true, "0fde6491373d801a479582368b26f9bf8ccaa4f52c2eccf57a58ef38927ebe18"), looks := true }, kinds := [], alts := [], laidByText := true, laidKinds := [.data, .data, .data, .data, .sentinel, .sentinel, .pinned], laidTests := true, laidLooks := .later }
def ConfigJoinsUptoCardSaid : Prop := Claim7.holds Tryz.pinned (.plain (OpenSpec.upto configJoinsSpec)) configJoinsUptoCard
end Rows
end Go.Proofs.YthnoiikjfcnlhaaGreatDoor

/- A step of the proofs of the seat's theorems. -/
import Derived.Test.YtgclflkhpkdecaaGreatDoorVXJ0
set_option linter.unusedSimpArgs false
set_option linter.unusedVariables false
set_option maxRecDepth 100000
set_option maxHeartbeats 0
namespace Go.Proofs.YtgclflkhpkdecaaGreatDoor
open _root_.Go.Proofs.Tryz
open Go.Abs Go.ChangeShapes Go.WideShapes Go.ChangeAt Go.RowKit Go.ChangeMaps
theorem names_closed:joinedFacts prog 3 Tryz.f3 (Rows.OpenSpec.upto Rows.dynamicNamesSpec).bare Rows.dynamicNamesUptoRow=true:=by
 unfold joinedFacts
 simp only [aaA]
 and_intros
 all_goals as_aux_lemma=>kernel_rfl
end Go.Proofs.YtgclflkhpkdecaaGreatDoor

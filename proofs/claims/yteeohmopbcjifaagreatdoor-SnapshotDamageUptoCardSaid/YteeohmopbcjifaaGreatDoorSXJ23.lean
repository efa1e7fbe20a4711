import Derived.Test.YteeohmopbcjifaaGreatDoorSXJ1
set_option linter.unusedSimpArgs false
set_option linter.unusedVariables false
set_option maxRecDepth 100000
set_option maxHeartbeats 0
namespace Go.Proofs.YteeohmopbcjifaaGreatDoor
open _root_.Go.Proofs.Tryz
open Go.Abs Go.ChangeShapes Go.WideShapes Go.ChangeAt Go.RowKit Go.ChangeMaps
theorem sdamage_closed:joinedFacts prog 3 Tryz.f3 (Rows.OpenSpec.upto Rows.snapshotDamageSpec).bare Rows.snapshotDamageUptoRow=true:=by
 unfold joinedFacts
 simp only [aaW]
 and_intros
 all_goals as_aux_lemma=>kernel_rfl

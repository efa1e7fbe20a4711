import Derived.Test.YtbcillkajdnljaaGreatDoorVXJ34
import Derived.Test.YtbcillkajdnljaaGreatDoorVXJ35
set_option linter.all false
set_option maxRecDepth 100000
set_option maxHeartbeats 0
namespace Go.Proofs.YtbcillkajdnljaaGreatDoor
open _root_.Go.Proofs.Tryz
open Go.Abs Go.ChangeShapes Go.WideShapes Go.ChangeAt Go.RowKit Go.ChangeMaps
def oo_closedOf (h:(Rows.outcomeOfUptoRow.named==Tryz.prog.varsNamed 3)=true):joinedFacts prog 3 Tryz.f3 (Rows.OpenSpec.upto Rows.outcomeOfSpec).bare Rows.outcomeOfUptoRow=true:=by
 unfold joinedFacts;simp only [aas];and_intros
 all_goals with_reducible first|exact oo_inPlace|exact oo_unfollowed|exact oo_recurses|exact h|skip
 all_goals as_aux_lemma=>kernel_rfl

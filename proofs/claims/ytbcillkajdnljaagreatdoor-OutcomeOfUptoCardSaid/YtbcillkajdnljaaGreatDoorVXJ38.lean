import Derived.Test.YtbcillkajdnljaaGreatDoorVXJ31
import Derived.Test.YtbcillkajdnljaaGreatDoorVXJ36
import Derived.Test.YtbcillkajdnljaaGreatDoorVXJ37
set_option linter.all false
set_option maxRecDepth 100000
set_option maxHeartbeats 0
namespace Go.Proofs.YtbcillkajdnljaaGreatDoor
open _root_.Go.Proofs.Tryz
open Go.Abs Go.ChangeShapes Go.WideShapes Go.ChangeAt Go.RowKit Go.ChangeMaps
def oo_named:(Rows.outcomeOfUptoRow.named==Tryz.prog.varsNamed 3)=true:=by
 rw [Program.varsNamed,oo_namA,oo_namB];kernel_rfl
def oo_closed:joinedFacts prog 3 Tryz.f3 (Rows.OpenSpec.upto Rows.outcomeOfSpec).bare Rows.outcomeOfUptoRow=true:=oo_closedOf oo_named

import Derived.Test.YtbcillkajdnljaaGreatDoorVXJ0
set_option linter.all false
set_option maxRecDepth 100000
set_option maxHeartbeats 0
namespace Go.Proofs.YtbcillkajdnljaaGreatDoor
open Go.Abs Go.ChangeShapes Go.WideShapes Go.ChangeAt Go.RowKit Go.ChangeMaps
def oo_inPlace:(Rows.outcomeOfUptoRow.inPlace==Tryz.prog.inPlace 3)=true:=by kernel_rfl

import Derived.Test.YtbcillkajdnljaaGreatDoorVXJ0
set_option linter.all false
set_option maxRecDepth 100000
set_option maxHeartbeats 0
namespace Go.Proofs.YtbcillkajdnljaaGreatDoor
open Go.Abs Go.ChangeShapes Go.WideShapes Go.ChangeAt Go.RowKit Go.ChangeMaps
def oo_unfollowed:(Rows.outcomeOfUptoRow.unfollowed==Tryz.prog.unfollowed 3)=true:=by kernel_rfl
def oo_recurses:(Rows.outcomeOfUptoRow.recurses==Tryz.prog.recurses 3)=true:=by kernel_rfl

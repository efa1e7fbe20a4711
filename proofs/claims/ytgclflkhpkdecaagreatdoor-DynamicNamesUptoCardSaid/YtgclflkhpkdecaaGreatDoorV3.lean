/- A step of the proofs of the seat's theorems. -/
import Derived.Test.YtgclflkhpkdecaaGreatDoorVA
import Derived.Maps.OwnIn
import Derived.Maps.Views
import Derived.Maps.OwnOps
import Derived.WalkKit
import Derived.Laws.Externs
import Derived.Test.YtgclflkhpkdecaaGreatDoorChecked
set_option linter.unusedSimpArgs false
set_option linter.unusedVariables false
namespace Go.Proofs.YtgclflkhpkdecaaGreatDoor
open Go Go.Proofs Go.RowKit Go.Maps
end Go.Proofs.YtgclflkhpkdecaaGreatDoor

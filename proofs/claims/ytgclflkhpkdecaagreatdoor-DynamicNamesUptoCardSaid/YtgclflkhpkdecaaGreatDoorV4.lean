/- A step of the proofs of the seat's theorems. -/
import Derived.Test.YtgclflkhpkdecaaGreatDoorVA
import Derived.Lib.Builder
import Derived.WalkKit
import Derived.Laws.Externs
import Derived.Test.YtgclflkhpkdecaaGreatDoorChecked
import Derived.Lib.UnsafeStr
import Derived.Shelf.RegionOpenPlain
import Derived.Shelf.Strings.BuilderX
import Derived.Lib.MakeNoZero
import Derived.Laws.IdiomCopy
import Derived.Lib.Walk
set_option linter.unusedSimpArgs false
set_option linter.unusedVariables false
section
namespace Go.Proofs.YtgclflkhpkdecaaGreatDoor
open Go Go.Proofs Go.RowKit
end Go.Proofs.YtgclflkhpkdecaaGreatDoor
end
section
namespace Go.Proofs.YtgclflkhpkdecaaGreatDoor
open Go Go.Proofs Go.RowKit Go.Shelf
end Go.Proofs.YtgclflkhpkdecaaGreatDoor
end

/- The shelf's contract of small numbers as texts, tied to this program. -/
import Derived.Test.YtjjppbfknjeddaaGreatDoorChecked
import Derived.WalkKit
import Derived.Shelf.Lay
import Derived.Shelf.LaySoft
import Derived.Shelf.Strconv.Itoa1
import Derived.Shelf.Strconv.Itoa2
namespace Go.Proofs
open Go.Shelf
shelf_lay Lays.n283 Nm 283 at Tryz as Tryz.lays283
end Go.Proofs

/- Contracts of the shelf, tied to this program. -/
import Derived.Test.YtbmopcmhokpchaaDoorChecked
import Derived.WalkKit
import Derived.Shelf.Lay
import Derived.Shelf.LaySoft
import Derived.Shelf.LaysM
import Derived.Shelf.Strconv.Itoa1
import Derived.Shelf.Strconv.Itoa2
import Derived.Shelf.Strings.OnBuilder
namespace Go.Proofs
open Go.Shelf
shelf_lay Lays.n283 Nm 283 at Tryd as Tryd.lays283
shelf_lay LaysM.n284 Nm 284 at Tryd as Tryd.laysM284
shelf_lay Lays.n285 Nm 285 at Tryd as Tryd.lays285
shelf_lay Lays.n156 Nm 156 at Tryd as Tryd.lays156
end Go.Proofs

/- Contracts: slices.Repeat of one number (math/bits.Mul is laid from the shelf). -/
import Derived.Shelf.Lay
import Derived.Shelf.Bits.Mul64
import Derived.Laws.CopyOwn
import Derived.Deep.RegionLaw
import Derived.Test.YticjoichmcegnaaProg
namespace Go.Proofs.Yticjoichmcegnaa
open Go.Shelf
shelf_lay Lays.n212 Nm 212 at Try as Try.lays212
end Go.Proofs.Yticjoichmcegnaa

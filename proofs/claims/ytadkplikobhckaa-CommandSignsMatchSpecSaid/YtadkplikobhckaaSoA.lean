/- slices.Sort at ints: laid. -/
import Derived.Shelf.Sort.Plain
import Derived.Shelf.Slices.In.SortNone
import Derived.Shelf.Lay
import Derived.Ground.NamesProg
import Derived.Test.YtadkplikobhckaaChecked
namespace Go.Proofs.Ytadkplikobhckaa
open Go.Shelf Go.RowKit Go.Lib Go.Sort
shelf_lay Lays.n189 Nm 189 at Try as Try.sortIn
end Go.Proofs.Ytadkplikobhckaa

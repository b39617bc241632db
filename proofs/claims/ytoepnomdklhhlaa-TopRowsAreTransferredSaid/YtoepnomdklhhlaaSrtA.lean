/- slices.SortFunc at spans: laid. -/
import Derived.Shelf.SlSortCmp.WholeK
import Derived.Shelf.Small.Bits
import Derived.Shelf.Lay
import Derived.Ground.SlsfProg
import Derived.Ground.NamesProg
import Derived.Test.YtoepnomdklhhlaaChecked
namespace Go.Proofs.Ytoepnomdklhhlaa
open Go.Shelf Go.RowKit Go.Lib Go.Sort
shelf_lay_g SlLaysF0.n6 Slsf 6 at Try 59 as Try.sortSp
shelf_lay Lays.n125 Nm 125 at Try as Try.bitsLen
end Go.Proofs.Ytoepnomdklhhlaa

/- slices.SortFunc at spans: laid. -/
import Derived.Shelf.SlSortCmp.WholeK
import Derived.Shelf.Small.Bits
import Derived.Shelf.Lay
import Derived.Ground.SlsfProg
import Derived.Ground.NamesProg
import Derived.Test.YtoepnomdklhhlaaGreatChecked
namespace Go.Proofs.YtoepnomdklhhlaaGreat
open Go.Shelf Go.RowKit Go.Lib Go.Sort
shelf_lay_g SlLaysF0.n6 Slsf 6 at Tryz 154 as Tryz.sortSp
shelf_lay Lays.n125 Nm 125 at Tryz as Tryz.bitsLen
end Go.Proofs.YtoepnomdklhhlaaGreat

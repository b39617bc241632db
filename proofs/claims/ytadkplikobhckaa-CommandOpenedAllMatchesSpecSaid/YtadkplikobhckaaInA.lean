/- slices.Insert at ints: laid. -/
import Derived.Shelf.Spec.SlicesInsertGrow
import Derived.Shelf.Lay
import Derived.Ground.Names2Prog
import Derived.Test.YtadkplikobhckaaChecked
namespace Go.Proofs.Ytadkplikobhckaa
open Go.Shelf Go.RowKit Go.Lib
shelf_lay Lays2.n21 Nm2 21 at Try as Try.insIn
end Go.Proofs.Ytadkplikobhckaa

/- slices.Sort at strings: laid. -/
import Derived.Shelf.Sort.Plain
import Derived.Shelf.Slices.In.SortNone
import Derived.Shelf.Lay
import Derived.Ground.NamesProg
import Derived.Test.YtecnlienmpdlaaaChecked
namespace Go.Proofs.Ytecnlienmpdlaaa
open Go.Shelf Go.RowKit Go.Lib Go.Sort
shelf_lay Lays.n190 Nm 190 at Try as Try.sortStr
end Go.Proofs.Ytecnlienmpdlaaa

import Derived.Shelf.Sort.Plain
import Derived.Shelf.Slices.In.SortNone
import Derived.Shelf.Lay
import Derived.Ground.NamesProg
import Derived.Test.YtecnlienmpdlaaaGreatChecked
namespace Go.Proofs.YtecnlienmpdlaaaGreat
open Go.Shelf Go.RowKit Go.Lib Go.Sort
shelf_lay Lays.n189 Nm 189 at Tryz as Tryz.sortIn
end Go.Proofs.YtecnlienmpdlaaaGreat

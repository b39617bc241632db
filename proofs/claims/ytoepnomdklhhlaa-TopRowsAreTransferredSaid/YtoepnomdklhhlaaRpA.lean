/- bytes.Repeat at one byte: walked. -/
import Derived.Shelf.Spec.SlicesInsert
import Derived.Shelf.Bits.Mul64
import Derived.Shelf.Lay
import Derived.Ground.NamesProg
import Derived.WalkKit
import Derived.Deep.LoopGhost
import Derived.Lib.SlBuf
import Derived.Lib.MakeNoZero
import Derived.Lib.SliceRun
import Derived.Laws.Externs
import Derived.Test.YtoepnomdklhhlaaChecked
set_option linter.unusedVariables false
set_option linter.unusedSimpArgs false
namespace Go.Proofs.Ytoepnomdklhhlaa
open Go Go.Shelf Go.RowKit Go.Lib
shelf_lay Lays.n212 Nm 212 at Try as Try.mulIn
end Go.Proofs.Ytoepnomdklhhlaa

/- bytes.Repeat at one byte: walked. -/
import Derived.Shelf.Spec.SlicesInsert
import Derived.Shelf.Bits.Mul64
import Derived.Shelf.Lay
import Derived.Ground.NamesProg
import Derived.WalkKit
import Derived.Deep.LoopGhost
import Derived.Lib.SlBuf
import Derived.Lib.MakeNoZero
import Derived.Lib.SliceRun
import Derived.Laws.Externs
import Derived.Test.YtoepnomdklhhlaaGreatChecked
set_option linter.unusedVariables false
set_option linter.unusedSimpArgs false
namespace Go.Proofs.YtoepnomdklhhlaaGreat
open Go Go.Shelf Go.RowKit Go.Lib
shelf_lay Lays.n212 Nm 212 at Tryz as Tryz.mulIn
end Go.Proofs.YtoepnomdklhhlaaGreat

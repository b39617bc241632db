/- All functions in typed form (printed by a program of this work). -/
import Derived.Test.YtoepnomdklhhlaaGreatPT1
set_option maxRecDepth 100000
namespace Go.Proofs.YtoepnomdklhhlaaGreat.PM
open Go

end Go.Proofs.YtoepnomdklhhlaaGreat.PM

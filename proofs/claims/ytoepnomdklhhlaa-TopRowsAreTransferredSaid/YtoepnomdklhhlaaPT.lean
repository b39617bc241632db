/- All functions in typed form (printed by a program of this work). -/
import Derived.Test.YtoepnomdklhhlaaPT1
set_option maxRecDepth 100000
namespace Go.Proofs.Ytoepnomdklhhlaa.PM
open Go

end Go.Proofs.Ytoepnomdklhhlaa.PM

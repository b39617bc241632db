/- All functions in typed form (printed by a program of this work). -/
import Derived.Test.YtadkplikobhckaaPT0
set_option maxRecDepth 100000
namespace Go.Proofs.Ytadkplikobhckaa.PM
open Go

end Go.Proofs.Ytadkplikobhckaa.PM

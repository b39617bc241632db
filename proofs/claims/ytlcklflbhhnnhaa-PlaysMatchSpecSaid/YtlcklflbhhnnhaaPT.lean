/- All functions in typed form (printed by a program of this work). -/
import Derived.Test.YtlcklflbhhnnhaaPT2
set_option maxRecDepth 100000
namespace Go.Proofs.Ytlcklflbhhnnhaa.PM
open Go
end Go.Proofs.Ytlcklflbhhnnhaa.PM

/- All functions in typed form (printed by a program of this work). -/
import Derived.Test.YtahdmfboidjkoaaPT0
set_option maxRecDepth 100000
namespace Go.Proofs.Ytahdmfboidjkoaa.PM
open Go

end Go.Proofs.Ytahdmfboidjkoaa.PM

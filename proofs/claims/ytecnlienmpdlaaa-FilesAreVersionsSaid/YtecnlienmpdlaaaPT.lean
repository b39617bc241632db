/- All functions in typed form (printed by a program of this work). -/
import Derived.Test.YtecnlienmpdlaaaPT0
set_option maxRecDepth 100000
namespace Go.Proofs.Ytecnlienmpdlaaa.PM
open Go

end Go.Proofs.Ytecnlienmpdlaaa.PM

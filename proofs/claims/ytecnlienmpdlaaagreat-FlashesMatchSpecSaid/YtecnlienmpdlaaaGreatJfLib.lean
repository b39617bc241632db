import Derived.Test.YtecnlienmpdlaaaGreatRows
import Derived.Test.YtecnlienmpdlaaaGreatPmRow
namespace Go.Proofs.YtecnlienmpdlaaaGreat.PM
open Go
set_option maxRecDepth 100000
theorem jl25 : (Tryz.prog.mayEnter) = true := by kernel_rfl
theorem jl26 : ((Rows.flashesMatchSpecRow.lifted == Tryz.prog.liftsFinal)) = true := by kernel_rfl
theorem jl27 : ((Tryz.prog.make == some Rows.flashesMatchSpecRow.make)) = true := by kernel_rfl
end Go.Proofs.YtecnlienmpdlaaaGreat.PM

/- Facts of the program that the rows of all laws of this seat ask, and that take long to compute. -/
import Derived.Test.YtecnlienmpdlaaaRows
import Derived.Test.YtecnlienmpdlaaaPmRow
namespace Go.Proofs.Ytecnlienmpdlaaa.PM
open Go
set_option maxRecDepth 100000
theorem jl25 : (Try.prog.mayEnter) = true := by kernel_rfl
theorem jl26 : ((Rows.flipsMatchSpecRow.lifted == Try.prog.liftsFinal)) = true := by kernel_rfl
theorem jl27 : ((Try.prog.make == some Rows.flipsMatchSpecRow.make)) = true := by kernel_rfl
end Go.Proofs.Ytecnlienmpdlaaa.PM

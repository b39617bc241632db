/- Facts of the program that the rows of all laws of this seat ask, and that take long to compute. -/
import Derived.Test.YtlcklflbhhnnhaaRows
import Derived.Test.YtlcklflbhhnnhaaPmRow
namespace Go.Proofs.Ytlcklflbhhnnhaa.PM
open Go
set_option maxRecDepth 100000
theorem jl25 : (Try.prog.mayEnter) = true := by kernel_rfl
theorem jl26 : ((Rows.lettersMatchSpecRow.lifted == Try.prog.liftsFinal)) = true := by kernel_rfl
theorem jl27 : ((Try.prog.make == some Rows.lettersMatchSpecRow.make)) = true := by kernel_rfl
end Go.Proofs.Ytlcklflbhhnnhaa.PM

/- Facts of the program that the rows of all laws of this seat ask, and that take long to compute. -/
import Derived.Test.YtoepnomdklhhlaaRows
import Derived.Test.YtoepnomdklhhlaaPmRow
namespace Go.Proofs.Ytoepnomdklhhlaa.PM
open Go
set_option maxRecDepth 100000
theorem jl25 : (Try.prog.mayEnter) = true := by kernel_rfl
theorem jl26 : ((Rows.topRowsAreTransferredRow.lifted == Try.prog.liftsFinal)) = true := by kernel_rfl
theorem jl27 : ((Try.prog.make == some Rows.topRowsAreTransferredRow.make)) = true := by kernel_rfl
end Go.Proofs.Ytoepnomdklhhlaa.PM

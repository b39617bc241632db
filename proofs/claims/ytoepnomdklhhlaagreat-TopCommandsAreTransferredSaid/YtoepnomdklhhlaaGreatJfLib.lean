/- Facts of the program that the rows of all laws of this seat ask, and that take long to compute. -/
import Derived.Test.YtoepnomdklhhlaaGreatRows
import Derived.Test.YtoepnomdklhhlaaGreatPmRow
namespace Go.Proofs.YtoepnomdklhhlaaGreat.PM
open Go
set_option maxRecDepth 100000
theorem jl25 : (Tryz.prog.mayEnter) = true := by kernel_rfl
theorem jl26 : ((Rows.topCommandsAreTransferredRow.lifted == Tryz.prog.liftsFinal)) = true := by kernel_rfl
theorem jl27 : ((Tryz.prog.make == some Rows.topCommandsAreTransferredRow.make)) = true := by kernel_rfl
end Go.Proofs.YtoepnomdklhhlaaGreat.PM

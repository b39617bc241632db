/- Facts of the program that the rows of all laws of this seat ask, and that take long to compute. -/
import Derived.Test.YtahdmfboidjkoaaRows
import Derived.Test.YtahdmfboidjkoaaPmRow
namespace Go.Proofs.Ytahdmfboidjkoaa.PM
open Go
set_option maxRecDepth 100000
theorem jl25 : (Try.prog.mayEnter) = true := by kernel_rfl
theorem jl26 : ((Rows.packetSumsMatchSpecRow.lifted == Try.prog.liftsFinal)) = true := by kernel_rfl
theorem jl27 : ((Try.prog.make == some Rows.packetSumsMatchSpecRow.make)) = true := by kernel_rfl
end Go.Proofs.Ytahdmfboidjkoaa.PM

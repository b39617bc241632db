/- The machine's run of CommandSignsMatchSpec is true. -/
import Derived.Test.YtadkplikobhckaaPlRef5
import Derived.Test.YtadkplikobhckaaPF
import Derived.Test.YtadkplikobhckaaPmRow
namespace Go.Proofs.Ytadkplikobhckaa.PM
open Go
set_option maxRecDepth 100000
theorem pure (x : (prodAll [.int .i64, .int .i64, .slice (.int .u8), .prod (.int .i64) (.prod (.int .i64) (.prod (.slice (.int .i64)) .unit)), .slice (.int .u8)]).D) (hw : Wf (prodAll [.int .i64, .int .i64, .slice (.int .u8), .prod (.int .i64) (.prod (.int .i64) (.prod (.slice (.int .i64)) .unit)), .slice (.int .u8)]) x) (hs : Szd (prodAll [.int .i64, .int .i64, .slice (.int .u8), .prod (.int .i64) (.prod (.int .i64) (.prod (.slice (.int .i64)) .unit)), .slice (.int .u8)]) x) : ∃ k, callC (R := Bool) T F k 15 (argsPV [.int .i64, .int .i64, .slice (.int .u8), .prod (.int .i64) (.prod (.int .i64) (.prod (.slice (.int .i64)) .unit)), .slice (.int .u8)] x) [] lawK = some true := by
  obtain ⟨x0, x1, x2, x3, x4, u⟩ := x
  obtain ⟨_, _, _, _, ⟨_, hwb⟩, _⟩ := hw
  have hB : B x4 := fun y hy => by
    have h := hwb y hy
    have h2 := bounds_u8 h
    omega
  refine ⟨5001, ?_⟩
  exact (e15 _ _ _ _ _ _ _ _ _).trans ((f15_eq (by omega) x0 x1 x2 x3.1 x3.2.1 x3.2.2.1 x4 hB _).trans rfl)
end Go.Proofs.Ytadkplikobhckaa.PM

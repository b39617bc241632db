/- The machine's run of CommandTakesMatchSpec is true. -/
import Derived.Test.YtadkplikobhckaaPlTakes
import Derived.Test.YtadkplikobhckaaPF
import Derived.Test.YtadkplikobhckaaPmRow
namespace Go.Proofs.Ytadkplikobhckaa.PM
open Go
set_option maxRecDepth 100000
theorem pure (x : (prodAll [.prod (.int .i64) (.prod (.int .i64) (.prod .bool (.prod .bool (.prod .bool (.prod (.int .i64) .unit))))), .prod (.int .i64) (.prod (.int .i64) (.prod (.slice (.int .u8)) .unit))]).D) (hw : Wf (prodAll [.prod (.int .i64) (.prod (.int .i64) (.prod .bool (.prod .bool (.prod .bool (.prod (.int .i64) .unit))))), .prod (.int .i64) (.prod (.int .i64) (.prod (.slice (.int .u8)) .unit))]) x) (hs : Szd (prodAll [.prod (.int .i64) (.prod (.int .i64) (.prod .bool (.prod .bool (.prod .bool (.prod (.int .i64) .unit))))), .prod (.int .i64) (.prod (.int .i64) (.prod (.slice (.int .u8)) .unit))]) x) : ∃ k, callC (R := Bool) T F k 6 (argsPV [.prod (.int .i64) (.prod (.int .i64) (.prod .bool (.prod .bool (.prod .bool (.prod (.int .i64) .unit))))), .prod (.int .i64) (.prod (.int .i64) (.prod (.slice (.int .u8)) .unit))] x) [] lawK = some true := by
  obtain ⟨x0, x1, u⟩ := x
  refine ⟨30, ?_⟩
  exact (e6 _ _ _ _ _ _ _ _ _ _ _).trans ((f6_eq (by omega) ⟨x0.1, x0.2.1, x0.2.2.1, x0.2.2.2.1, x0.2.2.2.2.1, x0.2.2.2.2.2.1⟩ _ _ _ _).trans rfl)
end Go.Proofs.Ytadkplikobhckaa.PM

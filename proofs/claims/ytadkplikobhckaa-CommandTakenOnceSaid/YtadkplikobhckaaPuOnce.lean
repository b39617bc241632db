/- The machine's run of CommandTakenOnce is true. -/
import Derived.Test.YtadkplikobhckaaPlOnce
import Derived.Test.YtadkplikobhckaaPF
import Derived.Test.YtadkplikobhckaaPmRow
namespace Go.Proofs.Ytadkplikobhckaa.PM
open Go
set_option maxRecDepth 100000
theorem pure (x : (prodAll [.prod (.int .i64) (.prod (.int .i64) (.prod .bool (.prod .bool (.prod .bool (.prod (.int .i64) .unit))))), .slice (.prod (.int .i64) (.prod (.int .i64) (.prod (.slice (.int .u8)) .unit)))]).D) (hw : Wf (prodAll [.prod (.int .i64) (.prod (.int .i64) (.prod .bool (.prod .bool (.prod .bool (.prod (.int .i64) .unit))))), .slice (.prod (.int .i64) (.prod (.int .i64) (.prod (.slice (.int .u8)) .unit)))]) x) (hs : Szd (prodAll [.prod (.int .i64) (.prod (.int .i64) (.prod .bool (.prod .bool (.prod .bool (.prod (.int .i64) .unit))))), .slice (.prod (.int .i64) (.prod (.int .i64) (.prod (.slice (.int .u8)) .unit)))]) x) : ∃ k, callC (R := Bool) T F k 5 (argsPV [.prod (.int .i64) (.prod (.int .i64) (.prod .bool (.prod .bool (.prod .bool (.prod (.int .i64) .unit))))), .slice (.prod (.int .i64) (.prod (.int .i64) (.prod (.slice (.int .u8)) .unit)))] x) [] lawK = some true := by
  obtain ⟨x0, x1, u⟩ := x
  obtain ⟨_, ⟨hl, _⟩, _⟩ := hs
  have hlen : x1.length * 40 ≤ 140737488351232 := hl
  refine ⟨x1.length + 40, ?_⟩
  exact (e5 _ _ _ _ _ _ _ _ _).trans ((f5_eq (l := x1) (by omega) (by omega) ⟨x0.1, x0.2.1, x0.2.2.1, x0.2.2.2.1, x0.2.2.2.2.1, x0.2.2.2.2.2.1⟩ _).trans rfl)
end Go.Proofs.Ytadkplikobhckaa.PM

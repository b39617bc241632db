/- The machine's run of CommandNeededMatchesSpec is true. -/
import Derived.Test.YtadkplikobhckaaPlNeeded
import Derived.Test.YtadkplikobhckaaPF
import Derived.Test.YtadkplikobhckaaPmRow
namespace Go.Proofs.Ytadkplikobhckaa.PM
open Go
set_option maxRecDepth 100000
theorem pure (x : (prodAll [.prod (.int .i64) (.prod (.int .i64) (.prod .bool (.prod .bool (.prod .bool (.prod (.int .i64) .unit))))), .prod (.int .i64) (.prod (.int .i64) (.prod (.slice (.slice (.int .u8))) (.prod (.int .i64) (.prod .bool .unit)))), .int .i64]).D) (hw : Wf (prodAll [.prod (.int .i64) (.prod (.int .i64) (.prod .bool (.prod .bool (.prod .bool (.prod (.int .i64) .unit))))), .prod (.int .i64) (.prod (.int .i64) (.prod (.slice (.slice (.int .u8))) (.prod (.int .i64) (.prod .bool .unit)))), .int .i64]) x) (hs : Szd (prodAll [.prod (.int .i64) (.prod (.int .i64) (.prod .bool (.prod .bool (.prod .bool (.prod (.int .i64) .unit))))), .prod (.int .i64) (.prod (.int .i64) (.prod (.slice (.slice (.int .u8))) (.prod (.int .i64) (.prod .bool .unit)))), .int .i64]) x) : ∃ k, callC (R := Bool) T F k 8 (argsPV [.prod (.int .i64) (.prod (.int .i64) (.prod .bool (.prod .bool (.prod .bool (.prod (.int .i64) .unit))))), .prod (.int .i64) (.prod (.int .i64) (.prod (.slice (.slice (.int .u8))) (.prod (.int .i64) (.prod .bool .unit)))), .int .i64] x) [] lawK = some true := by
  obtain ⟨x0, x1, x2, u⟩ := x
  obtain ⟨_, ⟨_, _, ⟨hq, _⟩, _⟩, _⟩ := hs
  have hlen : x1.2.2.1.length * 24 ≤ 140737488351232 := hq
  refine ⟨x1.2.2.1.length + 9200, ?_⟩
  exact (e8 _ _ _ _ _ _ _ _ _ _ _ _ _ _).trans ((f8_eq ⟨x0.1, x0.2.1, x0.2.2.1, x0.2.2.2.1, x0.2.2.2.2.1, x0.2.2.2.2.2.1⟩ ⟨x1.1, x1.2.1, x1.2.2.1, x1.2.2.2.1, x1.2.2.2.2.1⟩ x2 (by simp only; omega) (by simp only; omega) _).trans rfl)
end Go.Proofs.Ytadkplikobhckaa.PM

/- The machine's run of CommandNoCounterTwice is true. -/
import Derived.Test.YtadkplikobhckaaPlTwice
import Derived.Test.YtadkplikobhckaaPF
import Derived.Test.YtadkplikobhckaaPmRow
namespace Go.Proofs.Ytadkplikobhckaa.PM
open Go
set_option maxRecDepth 100000
theorem pure (x : (prodAll [.prod (.int .i64) (.prod (.int .i64) (.prod (.slice (.int .i64)) .unit)), .slice (.int .i64)]).D) (hw : Wf (prodAll [.prod (.int .i64) (.prod (.int .i64) (.prod (.slice (.int .i64)) .unit)), .slice (.int .i64)]) x) (hs : Szd (prodAll [.prod (.int .i64) (.prod (.int .i64) (.prod (.slice (.int .i64)) .unit)), .slice (.int .i64)]) x) : ∃ k, callC (R := Bool) T F k 13 (argsPV [.prod (.int .i64) (.prod (.int .i64) (.prod (.slice (.int .i64)) .unit)), .slice (.int .i64)] x) [] lawK = some true := by
  obtain ⟨x0, x1, u⟩ := x
  obtain ⟨_, ⟨hq, _⟩, _⟩ := hs
  have hlen : x1.length * 8 ≤ 140737488351232 := hq
  refine ⟨4001, ?_⟩
  exact (e13 _ _ _ _ _ _).trans ((f13_eq x0.1 x0.2.1 x0.2.2.1 x1 (by omega) (by omega) _).trans rfl)
end Go.Proofs.Ytadkplikobhckaa.PM

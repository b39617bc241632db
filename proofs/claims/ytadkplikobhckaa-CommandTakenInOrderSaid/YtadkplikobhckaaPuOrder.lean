/- The machine's run of CommandTakenInOrder is true. -/
import Derived.Test.YtadkplikobhckaaPlOrder
import Derived.Test.YtadkplikobhckaaPF
import Derived.Test.YtadkplikobhckaaPmRow
namespace Go.Proofs.Ytadkplikobhckaa.PM
open Go
set_option maxRecDepth 100000
theorem pure (x : (prodAll [.int .i64, .int .i64, .slice (.slice (.int .u8)), .int .i64, .slice (.prod .bool (.prod .bool (.prod .bool (.prod .bool (.prod (.int .i64) .unit)))))]).D) (hw : Wf (prodAll [.int .i64, .int .i64, .slice (.slice (.int .u8)), .int .i64, .slice (.prod .bool (.prod .bool (.prod .bool (.prod .bool (.prod (.int .i64) .unit)))))]) x) (hs : Szd (prodAll [.int .i64, .int .i64, .slice (.slice (.int .u8)), .int .i64, .slice (.prod .bool (.prod .bool (.prod .bool (.prod .bool (.prod (.int .i64) .unit)))))]) x) : ∃ k, callC (R := Bool) T F k 10 (argsPV [.int .i64, .int .i64, .slice (.slice (.int .u8)), .int .i64, .slice (.prod .bool (.prod .bool (.prod .bool (.prod .bool (.prod (.int .i64) .unit)))))] x) [] lawK = some true := by
  obtain ⟨x0, x1, x2, x3, x4, u⟩ := x
  obtain ⟨_, _, ⟨hq, _⟩, _, ⟨hl, _⟩, _⟩ := hs
  have hlen : x2.length * 24 ≤ 140737488351232 := hq
  have hlen2 : x4.length * 12 ≤ 140737488351232 := hl
  refine ⟨x2.length + x4.length + 6100, ?_⟩
  exact (e10 _ _ _ _ _ _ _).trans ((f10_eq x0 x1 x2 x3 x4 (by omega) (by omega) (by omega) _).trans rfl)
end Go.Proofs.Ytadkplikobhckaa.PM

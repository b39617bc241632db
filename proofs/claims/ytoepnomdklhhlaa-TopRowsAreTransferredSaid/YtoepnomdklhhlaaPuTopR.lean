/- The machine's run of TopRowsAreTransferred is true. -/
import Derived.Test.YtoepnomdklhhlaaPlTopR
import Derived.Test.YtoepnomdklhhlaaPF
import Derived.Test.YtoepnomdklhhlaaPmRow
namespace Go.Proofs.Ytoepnomdklhhlaa.PM
open Go
set_option maxRecDepth 100000
abbrev tysT : List Ty := [.prod (.int .i64) (.prod (.int .i64) (.prod (.int .i64) (.prod (.int .i64) (.prod (.int .i64) .unit)))), .slice (.int .i64), .slice .bool, .slice .bool]
theorem pure (x : (prodAll tysT).D) (hw : Wf (prodAll tysT) x) (hs : Szd (prodAll tysT) x) : ∃ k, callC (R := Bool) T F k 3 (argsPV tysT x) [] lawK = some true := by
 obtain ⟨x0, x1, x2, x3, u⟩ := x
 obtain ⟨_, hn, _⟩ := hs
 have h2 : x1.length * 8 ≤ 140737488351232 := hn.1
 refine ⟨1500001, ?_⟩
 exact (e3 _ _ _ _ _ _ _ _ _ _ ).trans ((f3_eq x0.1 x0.2.1 x0.2.2.1 x0.2.2.2.1 x0.2.2.2.2.1 x1 x2 x3 (by omega) (by omega) _).trans rfl)
end Go.Proofs.Ytoepnomdklhhlaa.PM

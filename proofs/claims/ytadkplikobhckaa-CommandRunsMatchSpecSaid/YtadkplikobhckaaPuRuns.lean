/- The machine's run of CommandRunsMatchSpec is true. -/
import Derived.Test.YtadkplikobhckaaPlRef
import Derived.Test.YtadkplikobhckaaPF
import Derived.Test.YtadkplikobhckaaPmRow
namespace Go.Proofs.Ytadkplikobhckaa.PM
open Go
set_option maxRecDepth 100000
theorem pure (x : (prodAll [.prod (.int .i64) (.prod (.int .i64) (.prod .bool (.prod .bool (.prod .bool (.prod (.int .i64) .unit))))), .prod (.int .i64) (.prod (.int .i64) (.prod (.slice (.slice (.int .u8))) (.prod (.int .i64) (.prod .bool .unit)))), .slice (.prod .bool (.prod .bool (.prod .bool (.prod .bool (.prod (.int .i64) .unit)))))]).D) (hw : Wf (prodAll [.prod (.int .i64) (.prod (.int .i64) (.prod .bool (.prod .bool (.prod .bool (.prod (.int .i64) .unit))))), .prod (.int .i64) (.prod (.int .i64) (.prod (.slice (.slice (.int .u8))) (.prod (.int .i64) (.prod .bool .unit)))), .slice (.prod .bool (.prod .bool (.prod .bool (.prod .bool (.prod (.int .i64) .unit)))))]) x) (hs : Szd (prodAll [.prod (.int .i64) (.prod (.int .i64) (.prod .bool (.prod .bool (.prod .bool (.prod (.int .i64) .unit))))), .prod (.int .i64) (.prod (.int .i64) (.prod (.slice (.slice (.int .u8))) (.prod (.int .i64) (.prod .bool .unit)))), .slice (.prod .bool (.prod .bool (.prod .bool (.prod .bool (.prod (.int .i64) .unit)))))]) x) : ∃ k, callC (R := Bool) T F k 9 (argsPV [.prod (.int .i64) (.prod (.int .i64) (.prod .bool (.prod .bool (.prod .bool (.prod (.int .i64) .unit))))), .prod (.int .i64) (.prod (.int .i64) (.prod (.slice (.slice (.int .u8))) (.prod (.int .i64) (.prod .bool .unit)))), .slice (.prod .bool (.prod .bool (.prod .bool (.prod .bool (.prod (.int .i64) .unit)))))] x) [] lawK = some true := by
  obtain ⟨x0, x1, x2, u⟩ := x
  obtain ⟨_, ⟨_, _, ⟨hq, hqb⟩, _⟩, ⟨hl, _⟩, _⟩ := hs
  have hlen : x1.2.2.1.length * 24 ≤ 140737488351232 := hq
  have hlen2 : x2.length * 12 ≤ 140737488351232 := hl
  refine ⟨x1.2.2.1.length + x2.length + 6100, ?_⟩
  exact (e9 _ _ _ _ _ _ _ _ _ _ _ _ _ _).trans ((f9_eq ⟨x0.1, x0.2.1, x0.2.2.1, x0.2.2.2.1, x0.2.2.2.2.1, x0.2.2.2.2.2.1⟩ ⟨x1.1, x1.2.1, x1.2.2.1, x1.2.2.2.1, x1.2.2.2.2.1⟩ x2 (by simp only; omega) (by omega) (by simp only; omega) (fun b hb => by
    have h : b.length * 1 ≤ 140737488351232 := (hqb b hb).1
    omega) _).trans rfl)
end Go.Proofs.Ytadkplikobhckaa.PM

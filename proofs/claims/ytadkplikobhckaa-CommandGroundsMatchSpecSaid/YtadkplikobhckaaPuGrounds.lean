/- The machine's run of CommandGroundsMatchSpec is true. -/
import Derived.Test.YtadkplikobhckaaPlGrounds
import Derived.Test.YtadkplikobhckaaPF
import Derived.Test.YtadkplikobhckaaPmRow
namespace Go.Proofs.Ytadkplikobhckaa.PM
open Go
set_option maxRecDepth 100000
theorem pure (x : (prodAll [.prod (.int .i64) (.prod (.int .i64) (.prod (.slice (.slice (.int .u8))) (.prod (.int .i64) (.prod .bool .unit)))), .slice (.int .u8), .prod (.int .i64) (.prod .bool (.prod .bool (.prod .bool .unit)))]).D) (hw : Wf (prodAll [.prod (.int .i64) (.prod (.int .i64) (.prod (.slice (.slice (.int .u8))) (.prod (.int .i64) (.prod .bool .unit)))), .slice (.int .u8), .prod (.int .i64) (.prod .bool (.prod .bool (.prod .bool .unit)))]) x) (hs : Szd (prodAll [.prod (.int .i64) (.prod (.int .i64) (.prod (.slice (.slice (.int .u8))) (.prod (.int .i64) (.prod .bool .unit)))), .slice (.int .u8), .prod (.int .i64) (.prod .bool (.prod .bool (.prod .bool .unit)))]) x) : ∃ k, callC (R := Bool) T F k 7 (argsPV [.prod (.int .i64) (.prod (.int .i64) (.prod (.slice (.slice (.int .u8))) (.prod (.int .i64) (.prod .bool .unit)))), .slice (.int .u8), .prod (.int .i64) (.prod .bool (.prod .bool (.prod .bool .unit)))] x) [] lawK = some true := by
  obtain ⟨x0, x1, x2, u⟩ := x
  obtain ⟨⟨_, _, ⟨hq, _⟩, _⟩, _⟩ := hs
  have hlen : x0.2.2.1.length * 24 ≤ 140737488351232 := hq
  refine ⟨x0.2.2.1.length + 2010, ?_⟩
  exact (e7 _ _ _ _ _ _ _ _ _ _ _ _).trans ((f7_eq ⟨x0.1, x0.2.1, x0.2.2.1, x0.2.2.2.1, x0.2.2.2.2.1⟩ (by simp only; omega) (by simp only; omega) x1 _ _ _ _ _).trans rfl)
end Go.Proofs.Ytadkplikobhckaa.PM

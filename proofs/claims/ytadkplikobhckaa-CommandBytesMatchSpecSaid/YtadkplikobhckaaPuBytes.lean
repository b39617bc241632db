/- The machine's run of CommandBytesMatchSpec is true. -/
import Derived.Test.YtadkplikobhckaaPlBytes
import Derived.Test.YtadkplikobhckaaPF
import Derived.Test.YtadkplikobhckaaPmRow
namespace Go.Proofs.Ytadkplikobhckaa.PM
open Go
set_option maxRecDepth 100000
theorem pure (x : (prodAll [.prod (.int .i64) (.prod (.int .i64) (.prod (.slice (.int .u8)) .unit)), .prod (.int .i64) (.prod .bool (.prod .bool (.prod .bool .unit)))]).D) (hw : Wf (prodAll [.prod (.int .i64) (.prod (.int .i64) (.prod (.slice (.int .u8)) .unit)), .prod (.int .i64) (.prod .bool (.prod .bool (.prod .bool .unit)))]) x) (hs : Szd (prodAll [.prod (.int .i64) (.prod (.int .i64) (.prod (.slice (.int .u8)) .unit)), .prod (.int .i64) (.prod .bool (.prod .bool (.prod .bool .unit)))]) x) : ∃ k, callC (R := Bool) T F k 4 (argsPV [.prod (.int .i64) (.prod (.int .i64) (.prod (.slice (.int .u8)) .unit)), .prod (.int .i64) (.prod .bool (.prod .bool (.prod .bool .unit)))] x) [] lawK = some true := by
  obtain ⟨x0, x1, u⟩ := x
  obtain ⟨⟨_, _, ⟨hl, _⟩, _⟩, _⟩ := hs
  have hlen : x0.2.2.1.length ≤ 140737488351232 := by
    have : x0.2.2.1.length * 1 ≤ 140737488351232 := hl
    omega
  refine ⟨x0.2.2.1.length + 30, ?_⟩
  exact (e4 _ _ _ _ _ _ _ _ _).trans ((f4_eq _ _ (l := x0.2.2.1) _ _ _ _ (by omega) (by omega) _).trans rfl)
end Go.Proofs.Ytadkplikobhckaa.PM

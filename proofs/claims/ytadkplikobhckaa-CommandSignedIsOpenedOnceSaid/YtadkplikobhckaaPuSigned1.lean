/- The machine's run of CommandSignedIsOpenedOnce is true. -/
import Derived.Test.YtadkplikobhckaaPlOnceS
import Derived.Test.YtadkplikobhckaaPF
import Derived.Test.YtadkplikobhckaaPmRow
namespace Go.Proofs.Ytadkplikobhckaa.PM
open Go
set_option maxRecDepth 100000
theorem pure (x : (prodAll [.prod (.int .i64) (.prod (.int .i64) (.prod (.slice (.int .i64)) .unit)), .int .i64, .slice (.int .u8)]).D) (hw : Wf (prodAll [.prod (.int .i64) (.prod (.int .i64) (.prod (.slice (.int .i64)) .unit)), .int .i64, .slice (.int .u8)]) x) (hs : Szd (prodAll [.prod (.int .i64) (.prod (.int .i64) (.prod (.slice (.int .i64)) .unit)), .int .i64, .slice (.int .u8)]) x) : ∃ k, callC (R := Bool) T F k 12 (argsPV [.prod (.int .i64) (.prod (.int .i64) (.prod (.slice (.int .i64)) .unit)), .int .i64, .slice (.int .u8)] x) [] lawK = some true := by
  obtain ⟨x0, x1, x2, u⟩ := x
  obtain ⟨_, _, ⟨_, hwb⟩, _⟩ := hw
  have hB : B x2 := fun y hy => by
    have h := hwb y hy
    have h2 := bounds_u8 h
    omega
  refine ⟨x2.length + 3001, ?_⟩
  exact (e12 _ _ _ _ _ _ _).trans ((f12_eq x0.1 x0.2.1 x0.2.2.1 x1 x2 hB (by omega) _).trans rfl)
end Go.Proofs.Ytadkplikobhckaa.PM

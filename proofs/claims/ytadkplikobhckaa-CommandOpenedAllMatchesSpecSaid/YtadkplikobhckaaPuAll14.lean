/- The machine's run of CommandOpenedAllMatchesSpec is true. -/
import Derived.Test.YtadkplikobhckaaPlRef5
import Derived.Test.YtadkplikobhckaaPF
import Derived.Test.YtadkplikobhckaaPmRow
namespace Go.Proofs.Ytadkplikobhckaa.PM
open Go
set_option maxRecDepth 100000
theorem pure (x : (prodAll [.prod (.int .i64) (.prod (.int .i64) (.prod (.slice (.int .i64)) .unit)), .slice (.slice (.int .u8))]).D) (hw : Wf (prodAll [.prod (.int .i64) (.prod (.int .i64) (.prod (.slice (.int .i64)) .unit)), .slice (.slice (.int .u8))]) x) (hs : Szd (prodAll [.prod (.int .i64) (.prod (.int .i64) (.prod (.slice (.int .i64)) .unit)), .slice (.slice (.int .u8))]) x) : ∃ k, callC (R := Bool) T F k 14 (argsPV [.prod (.int .i64) (.prod (.int .i64) (.prod (.slice (.int .i64)) .unit)), .slice (.slice (.int .u8))] x) [] lawK = some true := by
  obtain ⟨x0, x1, u⟩ := x
  obtain ⟨_, ⟨_, hwb⟩, _⟩ := hw
  obtain ⟨_, ⟨hq, _⟩, _⟩ := hs
  have hB : ∀ b ∈ x1, B b := fun b hb y hy => by
    have h := (hwb b hb).2 y hy
    have h2 := bounds_u8 h
    omega
  have hlen : x1.length * 24 ≤ 140737488351232 := hq
  refine ⟨5001, ?_⟩
  exact (e14 _ _ _ _ _ _).trans ((f14_eq (by omega) x0.1 x0.2.1 x0.2.2.1 x1 hB (by omega) _).trans rfl)
end Go.Proofs.Ytadkplikobhckaa.PM

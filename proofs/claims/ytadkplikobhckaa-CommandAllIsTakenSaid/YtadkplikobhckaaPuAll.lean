/- The machine's run of CommandAllIsTaken is true. -/
import Derived.Test.YtadkplikobhckaaPlNeeded
import Derived.Test.YtadkplikobhckaaPF
import Derived.Test.YtadkplikobhckaaPmRow
namespace Go.Proofs.Ytadkplikobhckaa.PM
open Go
set_option maxRecDepth 100000
theorem pure (x : (prodAll [.int .i64, .int .i64, .slice (.slice (.int .u8)), .int .i64]).D) (hw : Wf (prodAll [.int .i64, .int .i64, .slice (.slice (.int .u8)), .int .i64]) x) (hs : Szd (prodAll [.int .i64, .int .i64, .slice (.slice (.int .u8)), .int .i64]) x) : ∃ k, callC (R := Bool) T F k 11 (argsPV [.int .i64, .int .i64, .slice (.slice (.int .u8)), .int .i64] x) [] lawK = some true := by
  obtain ⟨x0, x1, x2, x3, u⟩ := x
  obtain ⟨_, _, ⟨hq, _⟩, _⟩ := hs
  have hlen : x2.length * 24 ≤ 140737488351232 := hq
  refine ⟨x2.length + 10100, ?_⟩
  exact (e11 _ _ _ _ _ _).trans ((f11_eq x0 x1 x2 x3 (by omega) (by omega) _).trans rfl)
end Go.Proofs.Ytadkplikobhckaa.PM

/- The machine's run of CommandReadsMatchSpec is true. -/
import Derived.Test.YtadkplikobhckaaPlB
import Derived.Test.YtadkplikobhckaaPF
import Derived.Test.YtadkplikobhckaaPmRow
namespace Go.Proofs.Ytadkplikobhckaa.PM
open Go
set_option maxRecDepth 100000
theorem pure (x : (prodAll [.slice (.int .u8)]).D) (hw : Wf (prodAll [.slice (.int .u8)]) x) (hs : Szd (prodAll [.slice (.int .u8)]) x) : ∃ k, callC (R := Bool) T F k 3 (argsPV [.slice (.int .u8)] x) [] lawK = some true := by
  obtain ⟨x0, u⟩ := x
  obtain ⟨⟨hl, _⟩, _⟩ := hs
  have hlen : x0.length ≤ 140737488351232 := by
    have : x0.length * 1 ≤ 140737488351232 := hl
    omega
  refine ⟨x0.length + 20, ?_⟩
  exact (e3 _ _ _).trans ((f3_eq (l := x0) (by omega) (by omega) _).trans rfl)
end Go.Proofs.Ytadkplikobhckaa.PM

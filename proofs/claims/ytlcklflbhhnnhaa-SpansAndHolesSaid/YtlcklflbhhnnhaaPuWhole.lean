/- The machine's run of SpansAndHoles is true. -/
import Derived.Test.YtlcklflbhhnnhaaPlSpan3
import Derived.Test.YtlcklflbhhnnhaaPF
import Derived.Test.YtlcklflbhhnnhaaPmRow
namespace Go.Proofs.Ytlcklflbhhnnhaa.PM
open Go
set_option maxRecDepth 100000
theorem pure (x : (prodAll [.slice (.prod (.int .i64) (.prod (.int .i64) .unit)), .int .i64]).D) (hw : Wf (prodAll [.slice (.prod (.int .i64) (.prod (.int .i64) .unit)), .int .i64]) x) (hs : Szd (prodAll [.slice (.prod (.int .i64) (.prod (.int .i64) .unit)), .int .i64]) x) : ∃ k, callC (R := Bool) T F k 8 (argsPV [.slice (.prod (.int .i64) (.prod (.int .i64) .unit)), .int .i64] x) [] lawK = some true := by
  obtain ⟨a, n, u⟩ := x
  refine ⟨a.length + 12030, ?_⟩
  exact (e8 _ _ _ _).trans ((f8_eq (a := a) n (by omega) _).trans rfl)
end Go.Proofs.Ytlcklflbhhnnhaa.PM

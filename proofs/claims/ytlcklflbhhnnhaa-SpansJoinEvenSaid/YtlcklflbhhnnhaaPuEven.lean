/- The machine's run of SpansJoinEven is true. -/
import Derived.Test.YtlcklflbhhnnhaaPlSpan3
import Derived.Test.YtlcklflbhhnnhaaPF
import Derived.Test.YtlcklflbhhnnhaaPmRow
namespace Go.Proofs.Ytlcklflbhhnnhaa.PM
open Go
set_option maxRecDepth 100000
theorem pure (x : (prodAll [.slice (.prod (.int .i64) (.prod (.int .i64) .unit)), .slice (.prod (.int .i64) (.prod (.int .i64) .unit)), .int .i64]).D) (hw : Wf (prodAll [.slice (.prod (.int .i64) (.prod (.int .i64) .unit)), .slice (.prod (.int .i64) (.prod (.int .i64) .unit)), .int .i64]) x) (hs : Szd (prodAll [.slice (.prod (.int .i64) (.prod (.int .i64) .unit)), .slice (.prod (.int .i64) (.prod (.int .i64) .unit)), .int .i64]) x) : ∃ k, callC (R := Bool) T F k 6 (argsPV [.slice (.prod (.int .i64) (.prod (.int .i64) .unit)), .slice (.prod (.int .i64) (.prod (.int .i64) .unit)), .int .i64] x) [] lawK = some true := by
  obtain ⟨a, b, n, u⟩ := x
  refine ⟨a.length + b.length + 8030, ?_⟩
  exact (e6 _ _ _ _ _).trans ((f6_eq (a := a) (b := b) n (by omega) _).trans rfl)
end Go.Proofs.Ytlcklflbhhnnhaa.PM

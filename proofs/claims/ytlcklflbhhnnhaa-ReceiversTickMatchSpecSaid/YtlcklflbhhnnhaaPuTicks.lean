/- The machine's run of ReceiversTickMatchSpec is true. -/
import Derived.Test.YtlcklflbhhnnhaaPlRecv3
import Derived.Test.YtlcklflbhhnnhaaPF
import Derived.Test.YtlcklflbhhnnhaaPmRow
namespace Go.Proofs.Ytlcklflbhhnnhaa.PM
open Go
set_option maxRecDepth 100000
theorem pure (x : (prodAll [.prod (.int .i64) (.prod (.int .i64) (.prod (.int .i64) (.prod (.int .i64) (.prod (.int .i64) .unit)))), .prod (.int .i64) (.prod (.int .i64) (.prod .str (.prod (.slice (.int .u8)) (.prod (.slice (.prod (.int .i64) (.prod (.int .i64) .unit))) (.prod (.int .i64) (.prod (.int .i64) (.prod (.int .i64) (.prod (.int .i64) .unit))))))))]).D) (hw : Wf (prodAll [.prod (.int .i64) (.prod (.int .i64) (.prod (.int .i64) (.prod (.int .i64) (.prod (.int .i64) .unit)))), .prod (.int .i64) (.prod (.int .i64) (.prod .str (.prod (.slice (.int .u8)) (.prod (.slice (.prod (.int .i64) (.prod (.int .i64) .unit))) (.prod (.int .i64) (.prod (.int .i64) (.prod (.int .i64) (.prod (.int .i64) .unit))))))))]) x) (hs : Szd (prodAll [.prod (.int .i64) (.prod (.int .i64) (.prod (.int .i64) (.prod (.int .i64) (.prod (.int .i64) .unit)))), .prod (.int .i64) (.prod (.int .i64) (.prod .str (.prod (.slice (.int .u8)) (.prod (.slice (.prod (.int .i64) (.prod (.int .i64) .unit))) (.prod (.int .i64) (.prod (.int .i64) (.prod (.int .i64) (.prod (.int .i64) .unit))))))))]) x) : ∃ k, callC (R := Bool) T F k 5 (argsPV [.prod (.int .i64) (.prod (.int .i64) (.prod (.int .i64) (.prod (.int .i64) (.prod (.int .i64) .unit)))), .prod (.int .i64) (.prod (.int .i64) (.prod .str (.prod (.slice (.int .u8)) (.prod (.slice (.prod (.int .i64) (.prod (.int .i64) .unit))) (.prod (.int .i64) (.prod (.int .i64) (.prod (.int .i64) (.prod (.int .i64) .unit))))))))] x) [] lawK = some true := by
  obtain ⟨x0, x1, u⟩ := x
  obtain ⟨_, ⟨_, _, hn, _⟩, _⟩ := hs
  have h1 : x1.2.2.1.size ≤ 140737488351232 := hn
  refine ⟨x1.2.2.1.size + x1.2.2.2.2.1.length + 110020, ?_⟩
  exact (e5 _ _ _ _ _ _ _ _ _ _ _ _ _ _ _ _).trans ((f5_eq x0.1 x0.2.1 x0.2.2.1 x0.2.2.2.1 x0.2.2.2.2.1 ⟨x1.1, x1.2.1, x1.2.2.1, x1.2.2.2.1, x1.2.2.2.2.1, x1.2.2.2.2.2.1, x1.2.2.2.2.2.2.1, x1.2.2.2.2.2.2.2.1, x1.2.2.2.2.2.2.2.2.1⟩ (by show x1.2.2.1.size < _; omega) (by show x1.2.2.1.size + x1.2.2.2.2.1.length + 110010 < _; omega) _).trans rfl)
end Go.Proofs.Ytlcklflbhhnnhaa.PM

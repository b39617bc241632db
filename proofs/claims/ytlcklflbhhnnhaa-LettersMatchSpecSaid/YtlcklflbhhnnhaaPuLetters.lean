/- The machine's run of LettersMatchSpec is true. -/
import Derived.Test.YtlcklflbhhnnhaaPlLet
import Derived.Test.YtlcklflbhhnnhaaPF
import Derived.Test.YtlcklflbhhnnhaaPmRow
namespace Go.Proofs.Ytlcklflbhhnnhaa.PM
open Go
set_option maxRecDepth 100000
theorem pure (x : (prodAll [.slice (.int .u8), .prod (.int .i64) (.prod (.int .i64) (.prod .str (.prod (.int .i64) (.prod (.int .i64) (.prod (.int .i64) (.prod (.slice (.int .u8)) (.prod (.slice (.prod (.int .i64) (.prod (.int .i64) .unit))) (.prod .bool .unit)))))))), .prod (.int .i64) (.prod (.int .i64) (.prod (.int .i64) (.prod (.int .i64) (.prod (.int .i64) .unit))))]).D) (hw : Wf (prodAll [.slice (.int .u8), .prod (.int .i64) (.prod (.int .i64) (.prod .str (.prod (.int .i64) (.prod (.int .i64) (.prod (.int .i64) (.prod (.slice (.int .u8)) (.prod (.slice (.prod (.int .i64) (.prod (.int .i64) .unit))) (.prod .bool .unit)))))))), .prod (.int .i64) (.prod (.int .i64) (.prod (.int .i64) (.prod (.int .i64) (.prod (.int .i64) .unit))))]) x) (hs : Szd (prodAll [.slice (.int .u8), .prod (.int .i64) (.prod (.int .i64) (.prod .str (.prod (.int .i64) (.prod (.int .i64) (.prod (.int .i64) (.prod (.slice (.int .u8)) (.prod (.slice (.prod (.int .i64) (.prod (.int .i64) .unit))) (.prod .bool .unit)))))))), .prod (.int .i64) (.prod (.int .i64) (.prod (.int .i64) (.prod (.int .i64) (.prod (.int .i64) .unit))))]) x) : ∃ k, callC (R := Bool) T F k 3 (argsPV [.slice (.int .u8), .prod (.int .i64) (.prod (.int .i64) (.prod .str (.prod (.int .i64) (.prod (.int .i64) (.prod (.int .i64) (.prod (.slice (.int .u8)) (.prod (.slice (.prod (.int .i64) (.prod (.int .i64) .unit))) (.prod .bool .unit)))))))), .prod (.int .i64) (.prod (.int .i64) (.prod (.int .i64) (.prod (.int .i64) (.prod (.int .i64) .unit))))] x) [] lawK = some true := by
  obtain ⟨x0, x1, x2, u⟩ := x
  obtain ⟨⟨_, hB⟩, _⟩ := hw
  obtain ⟨_, ⟨_, _, hn, _⟩, _⟩ := hs
  have h1 : x1.2.2.1.size ≤ 140737488351232 := hn
  refine ⟨x0.length + x1.2.2.1.size + x1.2.2.2.2.2.2.2.1.length + 50, ?_⟩
  exact (e3 _ _ _ _ _ _ _ _ _ _ _ _ _ _ _ _ _).trans ((f3_eq x0 x1.1 x1.2.1 x1.2.2.1 x1.2.2.2.1 x1.2.2.2.2.1 x1.2.2.2.2.2.1 x1.2.2.2.2.2.2.1 x1.2.2.2.2.2.2.2.1 x1.2.2.2.2.2.2.2.2.1 x2.1 x2.2.1 x2.2.2.1 x2.2.2.2.1 x2.2.2.2.2.1 (by omega) (by omega) (fun y hy => by
    have := bounds_u8 (hB y hy)
    omega) _).trans rfl)
end Go.Proofs.Ytlcklflbhhnnhaa.PM

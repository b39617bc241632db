/- The machine's run of PlaysEndRight is true. -/
import Derived.Test.YtlcklflbhhnnhaaPlPend
import Derived.Test.YtlcklflbhhnnhaaPF
import Derived.Test.YtlcklflbhhnnhaaPmRow
namespace Go.Proofs.Ytlcklflbhhnnhaa.PM
open Go
set_option maxRecDepth 100000
theorem pure (x : (prodAll [.prod (.int .i64) (.prod (.int .i64) (.prod (.int .i64) (.prod (.int .i64) (.prod (.int .i64) .unit)))), .int .i64, .str, .slice (.int .u8), .slice .bool, .slice .bool, .int .i64]).D) (hw : Wf (prodAll [.prod (.int .i64) (.prod (.int .i64) (.prod (.int .i64) (.prod (.int .i64) (.prod (.int .i64) .unit)))), .int .i64, .str, .slice (.int .u8), .slice .bool, .slice .bool, .int .i64]) x) (hs : Szd (prodAll [.prod (.int .i64) (.prod (.int .i64) (.prod (.int .i64) (.prod (.int .i64) (.prod (.int .i64) .unit)))), .int .i64, .str, .slice (.int .u8), .slice .bool, .slice .bool, .int .i64]) x) : ∃ k, callC (R := Bool) T F k 15 (argsPV [.prod (.int .i64) (.prod (.int .i64) (.prod (.int .i64) (.prod (.int .i64) (.prod (.int .i64) .unit)))), .int .i64, .str, .slice (.int .u8), .slice .bool, .slice .bool, .int .i64] x) [] lawK = some true := by
  obtain ⟨x0, x1, x2, x3, x4, x5, x6, u⟩ := x
  obtain ⟨_, _, hn, _⟩ := hs
  obtain ⟨_, _, _, ⟨_, hw1⟩, _⟩ := hw
  have h1 : x2.size ≤ 140737488351232 := hn
  have hu : U8 x3 := fun y hy => by
    have h := hw1 y hy
    exact bounds_u8 h
  refine ⟨x2.size + 1400002, ?_⟩
  exact (e15 _ _ _ _ _ _ _ _ _ _ _ _ _ ).trans ((f15_eq x0.1 x0.2.1 x0.2.2.1 x0.2.2.2.1 x0.2.2.2.2.1 x1 x2 x3 x4 x5 x6 (by omega) (by omega) hu _).trans rfl)
end Go.Proofs.Ytlcklflbhhnnhaa.PM

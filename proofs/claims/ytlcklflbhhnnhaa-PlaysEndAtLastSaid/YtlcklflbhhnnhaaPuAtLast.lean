/- The machine's run of PlaysEndAtLast is true. -/
import Derived.Test.YtlcklflbhhnnhaaPlAtLast
import Derived.Test.YtlcklflbhhnnhaaPF
import Derived.Test.YtlcklflbhhnnhaaPmRow
namespace Go.Proofs.Ytlcklflbhhnnhaa.PM
open Go
set_option maxRecDepth 100000
abbrev tys14 : List Ty := [.prod (.int .i64) (.prod (.int .i64) (.prod (.int .i64) (.prod (.int .i64) (.prod (.int .i64) .unit)))), .int .i64, .str, .slice (.int .u8), .slice .bool, .slice .bool]
theorem pure (x : (prodAll tys14).D) (hw : Wf (prodAll tys14) x) (hs : Szd (prodAll tys14) x) : ∃ k, callC (R := Bool) T F k 14 (argsPV tys14 x) [] lawK = some true := by
 obtain ⟨x0, x1, x2, x3, x4, x5, u⟩ := x
 obtain ⟨_, _, hn, _⟩ := hs
 obtain ⟨_, _, _, ⟨_, hw1⟩, _⟩ := hw
 have h1 : x2.size ≤ 140737488351232 := hn
 have hu : U8 x3 := fun y hy => by
  have h := hw1 y hy
  exact bounds_u8 h
 refine ⟨x2.size + 1400002, ?_⟩
 exact (e14 _ _ _ _ _ _ _ _ _ _ _ _ ).trans ((f14_eq x0.1 x0.2.1 x0.2.2.1 x0.2.2.2.1 x0.2.2.2.2.1 x1 x2 x3 x4 x5 (by omega) (by omega) hu _).trans rfl)
end Go.Proofs.Ytlcklflbhhnnhaa.PM

/- The machine's run of PlaysMatchSpec is true. -/
import Derived.Test.YtlcklflbhhnnhaaPlMatch
import Derived.Test.YtlcklflbhhnnhaaPF
import Derived.Test.YtlcklflbhhnnhaaPmRow
namespace Go.Proofs.Ytlcklflbhhnnhaa.PM
open Go
set_option maxRecDepth 100000
abbrev tys17 : List Ty := [.prod (.int .i64) (.prod (.int .i64) (.prod (.int .i64) (.prod (.int .i64) (.prod (.int .i64) .unit)))), .int .i64, .str, .slice (.int .u8), .slice .bool, .slice .bool, .int .i64]
theorem pure (x : (Q2a tys17).D) (hw : Wf (Q2a tys17) x) (hs : Szd (Q2a tys17) x) : ∃ k, callC (R := Bool) T F k 17 (argsPV tys17 x) [] lawK = some true := by
 obtain ⟨x0, x1, x2, x3, x4, x5, x6, u⟩ := x
 obtain ⟨_, _, hn, hn2, _⟩ := hs
 obtain ⟨_, _, _, ⟨_, hw1⟩, _⟩ := hw
 have h1 : x2.size ≤ 140737488351232 := hn
 have h2 : x3.length * 1 ≤ 140737488351232 := hn2.1
 have hu : U8 x3 := fun y hy => by
  have h := hw1 y hy
  exact bounds_u8 h
 refine ⟨x2.size + 1400002, ?_⟩
 exact (e17 _ _ _ _ _ _ _ _ _ _ _ _ _ ).trans ((Q1fg x0.1 x0.2.1 x0.2.2.1 x0.2.2.2.1 x0.2.2.2.2.1 x1 x2 x3 x4 x5 x6 (by omega) (by omega) (by omega) hu _).trans rfl)
end Go.Proofs.Ytlcklflbhhnnhaa.PM

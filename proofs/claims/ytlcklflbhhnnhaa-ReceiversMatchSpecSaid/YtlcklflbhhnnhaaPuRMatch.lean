/- The machine's run of ReceiversMatchSpec is true. -/
import Derived.Test.YtlcklflbhhnnhaaPlRmatch
import Derived.Test.YtlcklflbhhnnhaaPF
import Derived.Test.YtlcklflbhhnnhaaPmRow
namespace Go.Proofs.Ytlcklflbhhnnhaa.PM
open Go
set_option maxRecDepth 100000
theorem pure (x : (prodAll [.int .i64, .prod (.int .i64) (.prod (.int .i64) (.prod (.int .i64) (.prod (.int .i64) (.prod (.int .i64) .unit)))), .prod (.int .i64) (.prod (.int .i64) (.prod .str (.prod (.slice (.int .u8)) (.prod (.slice (.prod (.int .i64) (.prod (.int .i64) .unit))) (.prod (.int .i64) (.prod (.int .i64) (.prod (.int .i64) (.prod (.int .i64) .unit)))))))), .prod (.int .i64) (.prod (.int .i64) (.prod .str (.prod (.int .i64) (.prod (.int .i64) (.prod (.int .i64) (.prod (.slice (.int .u8)) (.prod (.slice (.prod (.int .i64) (.prod (.int .i64) .unit))) (.prod .bool .unit))))))))]).D) (hw : Wf (prodAll [.int .i64, .prod (.int .i64) (.prod (.int .i64) (.prod (.int .i64) (.prod (.int .i64) (.prod (.int .i64) .unit)))), .prod (.int .i64) (.prod (.int .i64) (.prod .str (.prod (.slice (.int .u8)) (.prod (.slice (.prod (.int .i64) (.prod (.int .i64) .unit))) (.prod (.int .i64) (.prod (.int .i64) (.prod (.int .i64) (.prod (.int .i64) .unit)))))))), .prod (.int .i64) (.prod (.int .i64) (.prod .str (.prod (.int .i64) (.prod (.int .i64) (.prod (.int .i64) (.prod (.slice (.int .u8)) (.prod (.slice (.prod (.int .i64) (.prod (.int .i64) .unit))) (.prod .bool .unit))))))))]) x) (hs : Szd (prodAll [.int .i64, .prod (.int .i64) (.prod (.int .i64) (.prod (.int .i64) (.prod (.int .i64) (.prod (.int .i64) .unit)))), .prod (.int .i64) (.prod (.int .i64) (.prod .str (.prod (.slice (.int .u8)) (.prod (.slice (.prod (.int .i64) (.prod (.int .i64) .unit))) (.prod (.int .i64) (.prod (.int .i64) (.prod (.int .i64) (.prod (.int .i64) .unit)))))))), .prod (.int .i64) (.prod (.int .i64) (.prod .str (.prod (.int .i64) (.prod (.int .i64) (.prod (.int .i64) (.prod (.slice (.int .u8)) (.prod (.slice (.prod (.int .i64) (.prod (.int .i64) .unit))) (.prod .bool .unit))))))))]) x) : ∃ k, callC (R := Bool) T F k 12 (argsPV [.int .i64, .prod (.int .i64) (.prod (.int .i64) (.prod (.int .i64) (.prod (.int .i64) (.prod (.int .i64) .unit)))), .prod (.int .i64) (.prod (.int .i64) (.prod .str (.prod (.slice (.int .u8)) (.prod (.slice (.prod (.int .i64) (.prod (.int .i64) .unit))) (.prod (.int .i64) (.prod (.int .i64) (.prod (.int .i64) (.prod (.int .i64) .unit)))))))), .prod (.int .i64) (.prod (.int .i64) (.prod .str (.prod (.int .i64) (.prod (.int .i64) (.prod (.int .i64) (.prod (.slice (.int .u8)) (.prod (.slice (.prod (.int .i64) (.prod (.int .i64) .unit))) (.prod .bool .unit))))))))] x) [] lawK = some true := by
  obtain ⟨x0, x1, x2, x3, u⟩ := x
  obtain ⟨_, _, ⟨_, _, hn, _⟩, ⟨_, _, hn2, _⟩, _⟩ := hs
  obtain ⟨_, _, ⟨_, _, _, ⟨_, hw1⟩, _⟩, ⟨_, _, _, _, _, _, ⟨_, hw2⟩, _⟩, _⟩ := hw
  have h1 : x2.2.2.1.size ≤ 140737488351232 := hn
  have h2 : x3.2.2.1.size ≤ 140737488351232 := hn2
  have hu : U8 x2.2.2.2.1 := fun y hy => by
    have h := hw1 y hy
    exact bounds_u8 h
  have hub : U8 x3.2.2.2.2.2.2.1 := fun y hy => by
    have h := hw2 y hy
    exact bounds_u8 h
  refine ⟨x2.2.2.1.size + x2.2.2.2.2.1.length + x3.2.2.1.size + x3.2.2.2.2.2.2.2.1.length + 120001, ?_⟩
  exact (e12 _ _ _ _ _ _ _ _ _ _ _ _ _ _ _ _ _ _ _ _ _ _ _ _ _ _ ).trans ((f12_eq x0 x1.1 x1.2.1 x1.2.2.1 x1.2.2.2.1 x1.2.2.2.2.1 ⟨x2.1, x2.2.1, x2.2.2.1, x2.2.2.2.1, x2.2.2.2.2.1, x2.2.2.2.2.2.1, x2.2.2.2.2.2.2.1, x2.2.2.2.2.2.2.2.1, x2.2.2.2.2.2.2.2.2.1⟩ x3.1 x3.2.1 x3.2.2.1 x3.2.2.2.1 x3.2.2.2.2.1 x3.2.2.2.2.2.1 x3.2.2.2.2.2.2.1 x3.2.2.2.2.2.2.2.1 x3.2.2.2.2.2.2.2.2.1 hu hub (by show x2.2.2.1.size < _; omega) (by omega) (by show x2.2.2.1.size + x2.2.2.2.2.1.length + x3.2.2.1.size + x3.2.2.2.2.2.2.2.1.length + 120000 < _; omega) _).trans rfl)
end Go.Proofs.Ytlcklflbhhnnhaa.PM

/- The machine's run of SendersMatchSpec is true. -/
import Derived.Test.YtlcklflbhhnnhaaPlSend2
import Derived.Test.YtlcklflbhhnnhaaPF
import Derived.Test.YtlcklflbhhnnhaaPmRow
namespace Go.Proofs.Ytlcklflbhhnnhaa.PM
open Go
set_option maxRecDepth 100000
theorem pure (x : (prodAll [.int .i64, .str, .slice (.int .u8), .prod (.int .i64) (.prod (.int .i64) (.prod (.int .i64) (.prod (.int .i64) (.prod (.int .i64) .unit)))), .prod (.int .i64) (.prod (.int .i64) (.prod .str (.prod (.slice (.int .u8)) (.prod (.int .i64) (.prod (.slice (.prod (.int .i64) (.prod (.int .i64) .unit))) (.prod (.int .i64) (.prod (.int .i64) .unit)))))))]).D) (hw : Wf (prodAll [.int .i64, .str, .slice (.int .u8), .prod (.int .i64) (.prod (.int .i64) (.prod (.int .i64) (.prod (.int .i64) (.prod (.int .i64) .unit)))), .prod (.int .i64) (.prod (.int .i64) (.prod .str (.prod (.slice (.int .u8)) (.prod (.int .i64) (.prod (.slice (.prod (.int .i64) (.prod (.int .i64) .unit))) (.prod (.int .i64) (.prod (.int .i64) .unit)))))))]) x) (hs : Szd (prodAll [.int .i64, .str, .slice (.int .u8), .prod (.int .i64) (.prod (.int .i64) (.prod (.int .i64) (.prod (.int .i64) (.prod (.int .i64) .unit)))), .prod (.int .i64) (.prod (.int .i64) (.prod .str (.prod (.slice (.int .u8)) (.prod (.int .i64) (.prod (.slice (.prod (.int .i64) (.prod (.int .i64) .unit))) (.prod (.int .i64) (.prod (.int .i64) .unit)))))))]) x) : ∃ k, callC (R := Bool) T F k 4 (argsPV [.int .i64, .str, .slice (.int .u8), .prod (.int .i64) (.prod (.int .i64) (.prod (.int .i64) (.prod (.int .i64) (.prod (.int .i64) .unit)))), .prod (.int .i64) (.prod (.int .i64) (.prod .str (.prod (.slice (.int .u8)) (.prod (.int .i64) (.prod (.slice (.prod (.int .i64) (.prod (.int .i64) .unit))) (.prod (.int .i64) (.prod (.int .i64) .unit)))))))] x) [] lawK = some true := by
  obtain ⟨x0, x1, x2, x3, x4, u⟩ := x
  obtain ⟨_, _, _, _, ⟨_, _, _, ⟨_, hB⟩, _⟩, _⟩ := hw
  obtain ⟨_, hn, _, _, ⟨_, _, hm, _⟩, _⟩ := hs
  have h1 : x1.size ≤ 140737488351232 := hn
  have h2 : x4.2.2.1.size ≤ 140737488351232 := hm
  refine ⟨x1.size + x4.2.2.1.size + x4.2.2.2.2.2.1.length + 110010, ?_⟩
  exact (e4 _ _ _ _ _ _ _ _ _ _ _ _ _ _ _ _ _ _).trans ((f4_eq x0 x1 x2 x3.1 x3.2.1 x3.2.2.1 x3.2.2.2.1 x3.2.2.2.2.1 ⟨x4.1, x4.2.1, x4.2.2.1, x4.2.2.2.1, x4.2.2.2.2.1, x4.2.2.2.2.2.1, x4.2.2.2.2.2.2.1, x4.2.2.2.2.2.2.2.1⟩ (fun y hy => by
    have := bounds_u8 (hB y hy)
    omega) (by omega) (by show x4.2.2.1.size < _; omega) (by show x1.size + x4.2.2.1.size + x4.2.2.2.2.2.1.length + 110000 < _; omega) _).trans rfl)
end Go.Proofs.Ytlcklflbhhnnhaa.PM

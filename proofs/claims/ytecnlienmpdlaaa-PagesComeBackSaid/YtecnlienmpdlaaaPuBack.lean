/- The machine's run of PagesComeBack is true. -/
import Derived.Test.YtecnlienmpdlaaaPlBackT
import Derived.Test.YtecnlienmpdlaaaPF
import Derived.Test.YtecnlienmpdlaaaPmRow
namespace Go.Proofs.Ytecnlienmpdlaaa.PM
open Go
set_option maxRecDepth 100000
theorem pure (x : (prodAll [.int .i64, .prod (.int .i64) (.prod .bool (.prod .str (.prod (.int .i64) (.prod .bool (.prod (.slice (.int .u8)) .unit))))), .int .i64]).D) (hw : Wf (prodAll [.int .i64, .prod (.int .i64) (.prod .bool (.prod .str (.prod (.int .i64) (.prod .bool (.prod (.slice (.int .u8)) .unit))))), .int .i64]) x) (hs : Szd (prodAll [.int .i64, .prod (.int .i64) (.prod .bool (.prod .str (.prod (.int .i64) (.prod .bool (.prod (.slice (.int .u8)) .unit))))), .int .i64]) x) : ∃ k, callC (R := Bool) T F k 6 (argsPV [.int .i64, .prod (.int .i64) (.prod .bool (.prod .str (.prod (.int .i64) (.prod .bool (.prod (.slice (.int .u8)) .unit))))), .int .i64] x) [] lawK = some true := by
  obtain ⟨x0, x1, x2, u⟩ := x
  obtain ⟨_, ⟨_, _, _, _, _, ⟨_, hB⟩, _⟩, _⟩ := hw
  obtain ⟨_, ⟨_, _, hn, _⟩, _⟩ := hs
  have h1 : x1.2.2.1.size ≤ 140737488351232 := hn
  refine ⟨x1.2.2.1.size + 9100, ?_⟩
  exact (e6 _ _ _ _ _ _ _ _ _ _).trans ((f6_eq x0 x1.1 x1.2.1 x1.2.2.1 x1.2.2.2.1 x1.2.2.2.2.1 x1.2.2.2.2.2.1 x2 (by omega) (by omega) (fun y hy => by
    have := bounds_u8 (hB y hy)
    omega) _).trans rfl)
end Go.Proofs.Ytecnlienmpdlaaa.PM

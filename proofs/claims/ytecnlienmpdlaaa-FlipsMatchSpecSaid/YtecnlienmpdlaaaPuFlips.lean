/- The machine's run of FlipsMatchSpec is true. -/
import Derived.Test.YtecnlienmpdlaaaPlFlips
import Derived.Test.YtecnlienmpdlaaaPF
import Derived.Test.YtecnlienmpdlaaaPmRow
namespace Go.Proofs.Ytecnlienmpdlaaa.PM
open Go
set_option maxRecDepth 100000
theorem pure (x : (prodAll [.prod (.int .i64) (.prod (.int .i64) (.prod (.int .i64) (.prod (.slice (.int .u8)) (.prod (.slice (.int .i64)) (.prod (.slice (.int .i64)) .unit))))), .int .i64]).D) (hw : Wf (prodAll [.prod (.int .i64) (.prod (.int .i64) (.prod (.int .i64) (.prod (.slice (.int .u8)) (.prod (.slice (.int .i64)) (.prod (.slice (.int .i64)) .unit))))), .int .i64]) x) (hs : Szd (prodAll [.prod (.int .i64) (.prod (.int .i64) (.prod (.int .i64) (.prod (.slice (.int .u8)) (.prod (.slice (.int .i64)) (.prod (.slice (.int .i64)) .unit))))), .int .i64]) x) : ∃ k, callC (R := Bool) T F k 3 (argsPV [.prod (.int .i64) (.prod (.int .i64) (.prod (.int .i64) (.prod (.slice (.int .u8)) (.prod (.slice (.int .i64)) (.prod (.slice (.int .i64)) .unit))))), .int .i64] x) [] lawK = some true := by
  obtain ⟨x0, x1, u⟩ := x
  obtain ⟨⟨_, _, _, ⟨_, hB⟩, _⟩, _⟩ := hw
  obtain ⟨⟨_, _, _, ⟨hd, _⟩, ⟨hww, _⟩, ⟨hx, _⟩, _⟩, _⟩ := hs
  have h1 : x0.2.2.2.1.length * 1 ≤ 140737488351232 := hd
  have h2 : x0.2.2.2.2.1.length * 8 ≤ 140737488351232 := hww
  have h3 : x0.2.2.2.2.2.1.length * 8 ≤ 140737488351232 := hx
  refine ⟨x0.2.2.2.2.1.length + x0.2.2.2.2.2.1.length + 200, ?_⟩
  exact (e3 _ _ _ _ _ _ _ _ _).trans ((f3_eq x0.1 x0.2.1 x0.2.2.1 x0.2.2.2.1 x0.2.2.2.2.1 x0.2.2.2.2.2.1 x1 (by omega) (by omega) (by omega) (by omega) (fun y hy => by
    have := bounds_u8 (hB y hy)
    omega) _).trans rfl)
end Go.Proofs.Ytecnlienmpdlaaa.PM

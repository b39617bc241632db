/- The machine's run of FormatsMatchSpec is true. -/
import Derived.Test.YtecnlienmpdlaaaPlFormats
import Derived.Test.YtecnlienmpdlaaaPF
import Derived.Test.YtecnlienmpdlaaaPmRow
namespace Go.Proofs.Ytecnlienmpdlaaa.PM
open Go
set_option maxRecDepth 100000
theorem pure (x : (prodAll [.int .i64, .int .i64, .int .i64, .slice (.int .i64), .slice (.int .u8)]).D) (hw : Wf (prodAll [.int .i64, .int .i64, .int .i64, .slice (.int .i64), .slice (.int .u8)]) x) (hs : Szd (prodAll [.int .i64, .int .i64, .int .i64, .slice (.int .i64), .slice (.int .u8)]) x) : ∃ k, callC (R := Bool) T F k 4 (argsPV [.int .i64, .int .i64, .int .i64, .slice (.int .i64), .slice (.int .u8)] x) [] lawK = some true := by
  obtain ⟨x0, x1, x2, x3, x4, u⟩ := x
  obtain ⟨_, _, _, ⟨hx, _⟩, ⟨hl, _⟩, _⟩ := hs
  have h1 : x3.length * 8 ≤ 140737488351232 := hx
  have h2 : x4.length * 1 ≤ 140737488351232 := hl
  refine ⟨x3.length + x4.length + 400100, ?_⟩
  exact (e4 _ _ _ _ _ _ _).trans ((f4_eq x0 x1 x2 x3 x4 (by omega) (by omega) (by omega) _).trans rfl)
end Go.Proofs.Ytecnlienmpdlaaa.PM

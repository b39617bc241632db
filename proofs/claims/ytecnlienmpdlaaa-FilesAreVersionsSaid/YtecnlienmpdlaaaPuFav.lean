/- The machine's run of FilesAreVersions is true. -/
import Derived.Test.YtecnlienmpdlaaaPlC
import Derived.Test.YtecnlienmpdlaaaPF
import Derived.Test.YtecnlienmpdlaaaPmRow
namespace Go.Proofs.Ytecnlienmpdlaaa.PM
open Go
set_option maxRecDepth 100000
theorem pure (x : (prodAll [.prod (.int .i64) (.prod (.int .i64) (.prod (.int .i64) (.prod (.slice (.int .u8)) (.prod (.slice (.int .i64)) (.prod (.slice (.int .i64)) .unit))))), .str]).D) (hw : Wf (prodAll [.prod (.int .i64) (.prod (.int .i64) (.prod (.int .i64) (.prod (.slice (.int .u8)) (.prod (.slice (.int .i64)) (.prod (.slice (.int .i64)) .unit))))), .str]) x) (hs : Szd (prodAll [.prod (.int .i64) (.prod (.int .i64) (.prod (.int .i64) (.prod (.slice (.int .u8)) (.prod (.slice (.int .i64)) (.prod (.slice (.int .i64)) .unit))))), .str]) x) : ∃ k, callC (R := Bool) T F k 8 (argsPV [.prod (.int .i64) (.prod (.int .i64) (.prod (.int .i64) (.prod (.slice (.int .u8)) (.prod (.slice (.int .i64)) (.prod (.slice (.int .i64)) .unit))))), .str] x) [] lawK = some true := by
  obtain ⟨x0, x1, u⟩ := x
  obtain ⟨⟨_, _, _, ⟨_, hB⟩, _⟩, _⟩ := hw
  obtain ⟨⟨_, _, _, ⟨hd, _⟩, ⟨hww, _⟩, ⟨hx, _⟩, _⟩, hn, _⟩ := hs
  have h1 : x0.2.2.2.1.length * 1 ≤ 140737488351232 := hd
  have h2 : x0.2.2.2.2.1.length * 8 ≤ 140737488351232 := hww
  have h3 : x0.2.2.2.2.2.1.length * 8 ≤ 140737488351232 := hx
  have h4 : x1.size ≤ 140737488351232 := hn
  refine ⟨x0.2.2.2.2.1.length + x0.2.2.2.2.2.1.length + x1.size + 60001, ?_⟩
  exact (e8 _ _ _ _ _ _ _ _ _).trans ((f8_eq (b := x0.1) (p := x0.2.1) (s := x0.2.2.1) (d := x0.2.2.2.1) (w := x0.2.2.2.2.1) (x := x0.2.2.2.2.2.1) ⟨fun y hy => by
    have := bounds_u8 (hB y hy)
    omega, by omega, by omega, by omega⟩ (nm := x1) h4 (by omega) _).trans rfl)
end Go.Proofs.Ytecnlienmpdlaaa.PM

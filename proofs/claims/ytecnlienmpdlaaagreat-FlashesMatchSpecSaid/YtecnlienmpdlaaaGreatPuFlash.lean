import Derived.Test.YtecnlienmpdlaaaGreatPlD
import Derived.Test.YtecnlienmpdlaaaGreatPF
import Derived.Test.YtecnlienmpdlaaaGreatPmRow
namespace Go.Proofs.YtecnlienmpdlaaaGreat.PM
open Go
set_option maxRecDepth 100000
theorem pure (x : (Q2n [.prod (.int .i64) (.prod (.int .i64) (.prod (.int .i64) (.prod (.slice (.int .u8)) (.prod (.slice (.int .i64)) (.prod (.slice (.int .i64)) .unit)))))]).D) (hw : Wf (Q2n [.prod (.int .i64) (.prod (.int .i64) (.prod (.int .i64) (.prod (.slice (.int .u8)) (.prod (.slice (.int .i64)) (.prod (.slice (.int .i64)) .unit)))))]) x) (hs : Szd (Q2n [.prod (.int .i64) (.prod (.int .i64) (.prod (.int .i64) (.prod (.slice (.int .u8)) (.prod (.slice (.int .i64)) (.prod (.slice (.int .i64)) .unit)))))]) x) : ∃ k, callC (R := Bool) T F k 4 (argsPV [.prod (.int .i64) (.prod (.int .i64) (.prod (.int .i64) (.prod (.slice (.int .u8)) (.prod (.slice (.int .i64)) (.prod (.slice (.int .i64)) .unit)))))] x) [] lawK = some true := by
 obtain ⟨x0, u⟩ := x
 obtain ⟨⟨_, _, _, ⟨_, hB⟩, _⟩, _⟩ := hw
 obtain ⟨⟨_, _, _, ⟨hd, _⟩, ⟨hww, _⟩, ⟨hx, _⟩, _⟩, _⟩ := hs
 have h1 : x0.2.2.2.1.length * 1 ≤ 140737488351232 := hd
 have h2 : x0.2.2.2.2.1.length * 8 ≤ 140737488351232 := hww
 have h3 : x0.2.2.2.2.2.1.length * 8 ≤ 140737488351232 := hx
 refine ⟨x0.2.2.2.2.1.length + x0.2.2.2.2.2.1.length + 20000001, ?_⟩
 exact (e4 _ _ _ _ _ _ _ _).trans ((f4_eq (b := x0.1) (p := x0.2.1) (s := x0.2.2.1) (d := x0.2.2.2.1) (w := x0.2.2.2.2.1) (x := x0.2.2.2.2.2.1) ⟨fun y hy => by
  have := bounds_u8 (hB y hy)
  omega, by omega, by omega, by omega⟩ (by omega) _).trans rfl)
end Go.Proofs.YtecnlienmpdlaaaGreat.PM

/- The machine's run of PacketFramesMatchSpec on any frame, any size and any bytes is true. -/
import Derived.Test.YtahdmfboidjkoaaPlFrames
import Derived.Test.YtahdmfboidjkoaaPuLib
namespace Go.Proofs.Ytahdmfboidjkoaa.PM
open Go
set_option maxRecDepth 100000
theorem pure (x : (prodAll [.prod (.int .i64) (.prod (.int .i64) (.prod (.int .i64) (.prod (.int .i64) (.prod (.slice (.int .u8)) .unit)))), .int .i64, .slice (.int .u8)]).D) (hw : Wf (prodAll [.prod (.int .i64) (.prod (.int .i64) (.prod (.int .i64) (.prod (.int .i64) (.prod (.slice (.int .u8)) .unit)))), .int .i64, .slice (.int .u8)]) x) (hs : Szd (prodAll [.prod (.int .i64) (.prod (.int .i64) (.prod (.int .i64) (.prod (.int .i64) (.prod (.slice (.int .u8)) .unit)))), .int .i64, .slice (.int .u8)]) x) : ∃ k, callC (R := Bool) T F k 7 (argsPV [.prod (.int .i64) (.prod (.int .i64) (.prod (.int .i64) (.prod (.int .i64) (.prod (.slice (.int .u8)) .unit)))), .int .i64, .slice (.int .u8)] x) [] lawK = some true := by
  obtain ⟨⟨a, b, c, d, l, _⟩, n, m, u⟩ := x
  obtain ⟨⟨_, _, _, _, ⟨_, hb⟩, _⟩, _, ⟨_, hc⟩, _⟩ := hw
  obtain ⟨⟨_, _, _, _, ⟨hl, _⟩, _⟩, _, ⟨hm, _⟩, _⟩ := hs
  have hlen : l.length ≤ 140737488351232 := by
    have : l.length * 1 ≤ 140737488351232 := hl
    omega
  have hlen2 : m.length ≤ 140737488351232 := by
    have : m.length * 1 ≤ 140737488351232 := hm
    omega
  refine ⟨l.length + m.length + 100, ?_⟩
  exact (e7 _ _ _ _ _ _ _ _ _).trans ((f7_eq (l := l) (m := m) (B_of hb) (B_of hc) (by omega) (by omega) a b c d n _ (by omega) _).trans rfl)
end Go.Proofs.Ytahdmfboidjkoaa.PM

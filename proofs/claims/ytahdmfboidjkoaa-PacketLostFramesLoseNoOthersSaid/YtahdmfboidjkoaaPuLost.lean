/- The machine's run of PacketLostFramesLoseNoOthers is true. -/
import Derived.Test.YtahdmfboidjkoaaPlTripM
import Derived.Test.YtahdmfboidjkoaaPuLib
import Derived.Test.YtahdmfboidjkoaaPF
import Derived.Test.YtahdmfboidjkoaaPmRow
namespace Go.Proofs.Ytahdmfboidjkoaa.PM
open Go
set_option maxRecDepth 100000
theorem pure (x : (prodAll [.int .i64, .int .i64, .int .i64, .int .i64, .slice (.prod (.int .i64) (.prod .bool (.prod (.int .i64) (.prod (.int .i64) (.prod (.slice (.int .u8)) .unit))))), .slice .bool]).D) (hw : Wf (prodAll [.int .i64, .int .i64, .int .i64, .int .i64, .slice (.prod (.int .i64) (.prod .bool (.prod (.int .i64) (.prod (.int .i64) (.prod (.slice (.int .u8)) .unit))))), .slice .bool]) x) (hs : Szd (prodAll [.int .i64, .int .i64, .int .i64, .int .i64, .slice (.prod (.int .i64) (.prod .bool (.prod (.int .i64) (.prod (.int .i64) (.prod (.slice (.int .u8)) .unit))))), .slice .bool]) x) : ∃ k, callC (R := Bool) T F k 15 (argsPV [.int .i64, .int .i64, .int .i64, .int .i64, .slice (.prod (.int .i64) (.prod .bool (.prod (.int .i64) (.prod (.int .i64) (.prod (.slice (.int .u8)) .unit))))), .slice .bool] x) [] lawK = some true := by
  obtain ⟨a, b, n, size, l, lost, u⟩ := x
  obtain ⟨_, _, _, _, ⟨_, hh⟩, _, _⟩ := hw
  obtain ⟨_, _, _, _, _, ⟨hl, _⟩, _⟩ := hs
  have hlen : lost.length < 4611686018427387904 := by
    have : lost.length * 1 ≤ 140737488351232 := hl
    omega
  have hy : ∀ y ∈ l, B y.2.2.2.2.1 := fun y hy => by
    obtain ⟨_, _, _, _, ⟨_, g⟩, _⟩ := hh y hy
    exact B_of g
  refine ⟨1000320, ?_⟩
  exact (e15 _ _ _ _ _ _ _ _).trans ((f15_eq (l := l) hy a b n size lost hlen _ (by omega) _).trans rfl)
end Go.Proofs.Ytahdmfboidjkoaa.PM

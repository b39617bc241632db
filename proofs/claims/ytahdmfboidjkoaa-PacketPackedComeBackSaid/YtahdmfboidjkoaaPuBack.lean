/- The machine's run of PacketPackedComeBack is true. -/
import Derived.Test.YtahdmfboidjkoaaPlTripM
import Derived.Test.YtahdmfboidjkoaaPuLib
import Derived.Test.YtahdmfboidjkoaaPF
import Derived.Test.YtahdmfboidjkoaaPmRow
namespace Go.Proofs.Ytahdmfboidjkoaa.PM
open Go
set_option maxRecDepth 100000
theorem pure (x : (prodAll [.int .i64, .int .i64, .int .i64, .int .i64, .slice (.prod (.int .i64) (.prod .bool (.prod (.int .i64) (.prod (.int .i64) (.prod (.slice (.int .u8)) .unit)))))]).D) (hw : Wf (prodAll [.int .i64, .int .i64, .int .i64, .int .i64, .slice (.prod (.int .i64) (.prod .bool (.prod (.int .i64) (.prod (.int .i64) (.prod (.slice (.int .u8)) .unit)))))]) x) (hs : Szd (prodAll [.int .i64, .int .i64, .int .i64, .int .i64, .slice (.prod (.int .i64) (.prod .bool (.prod (.int .i64) (.prod (.int .i64) (.prod (.slice (.int .u8)) .unit)))))]) x) : ∃ k, callC (R := Bool) T F k 14 (argsPV [.int .i64, .int .i64, .int .i64, .int .i64, .slice (.prod (.int .i64) (.prod .bool (.prod (.int .i64) (.prod (.int .i64) (.prod (.slice (.int .u8)) .unit)))))] x) [] lawK = some true := by
  obtain ⟨a, b, n, size, l, u⟩ := x
  obtain ⟨_, _, _, _, ⟨_, hh⟩, _⟩ := hw
  have hy : ∀ y ∈ l, B y.2.2.2.2.1 := fun y hy => by
    obtain ⟨_, _, _, _, ⟨_, g⟩, _⟩ := hh y hy
    exact B_of g
  refine ⟨1000320, ?_⟩
  exact (e14 _ _ _ _ _ _ _).trans ((f14_eq (l := l) hy a b n size _ (by omega) _).trans rfl)
end Go.Proofs.Ytahdmfboidjkoaa.PM

/- The machine's run of PacketUnpackedMatchesSpec is true. -/
import Derived.Test.YtahdmfboidjkoaaPlUnp3
import Derived.Test.YtahdmfboidjkoaaPuLib
import Derived.Test.YtahdmfboidjkoaaPF
import Derived.Test.YtahdmfboidjkoaaPmRow
namespace Go.Proofs.Ytahdmfboidjkoaa.PM
open Go
set_option maxRecDepth 100000
theorem pure (x : (prodAll [.slice (.prod (.int .i64) (.prod (.int .i64) (.prod (.int .i64) (.prod (.int .i64) (.prod (.slice (.int .u8)) .unit))))), .int .i64]).D) (hw : Wf (prodAll [.slice (.prod (.int .i64) (.prod (.int .i64) (.prod (.int .i64) (.prod (.int .i64) (.prod (.slice (.int .u8)) .unit))))), .int .i64]) x) (hs : Szd (prodAll [.slice (.prod (.int .i64) (.prod (.int .i64) (.prod (.int .i64) (.prod (.int .i64) (.prod (.slice (.int .u8)) .unit))))), .int .i64]) x) : ∃ k, callC (R := Bool) T F k 12 (argsPV [.slice (.prod (.int .i64) (.prod (.int .i64) (.prod (.int .i64) (.prod (.int .i64) (.prod (.slice (.int .u8)) .unit))))), .int .i64] x) [] lawK = some true := by
  obtain ⟨l, n, u⟩ := x
  obtain ⟨⟨_, hh⟩, _, _⟩ := hw
  obtain ⟨⟨_, hl⟩, _, _⟩ := hs
  have hB : ∀ y ∈ l, B y.2.2.2.2.1 := fun y hy => by
    obtain ⟨_, _, _, _, ⟨_, g⟩, _⟩ := hh y hy
    exact B_of g
  have hb : ∀ y ∈ l, y.2.2.2.2.1.length < 4611686018427387904 := fun y hy => by
    obtain ⟨_, _, _, _, ⟨s, _⟩, _⟩ := hl y hy
    have : y.2.2.2.2.1.length * 1 ≤ 140737488351232 := s
    omega
  refine ⟨1000310, ?_⟩
  exact (e12 _ _ _ _).trans ((f12_eq l n hB hb (by omega) _).trans rfl)
end Go.Proofs.Ytahdmfboidjkoaa.PM

/- The machine's run of PacketBytesMatchSpec on any packet is true. -/
import Derived.Test.YtahdmfboidjkoaaPlBytes
import Derived.Test.YtahdmfboidjkoaaPuLib
namespace Go.Proofs.Ytahdmfboidjkoaa.PM
open Go
set_option maxRecDepth 100000
theorem pure (x : (prodAll [.prod (.int .i64) (.prod .bool (.prod (.int .i64) (.prod (.int .i64) (.prod (.slice (.int .u8)) .unit))))]).D) (hw : Wf (prodAll [.prod (.int .i64) (.prod .bool (.prod (.int .i64) (.prod (.int .i64) (.prod (.slice (.int .u8)) .unit))))]) x) (hs : Szd (prodAll [.prod (.int .i64) (.prod .bool (.prod (.int .i64) (.prod (.int .i64) (.prod (.slice (.int .u8)) .unit))))]) x) : ∃ k, callC (R := Bool) T F k 6 (argsPV [.prod (.int .i64) (.prod .bool (.prod (.int .i64) (.prod (.int .i64) (.prod (.slice (.int .u8)) .unit))))] x) [] lawK = some true := by
  obtain ⟨⟨s, c, p, n, b, _⟩, u⟩ := x
  obtain ⟨⟨_, _, _, _, ⟨_, hb⟩, _⟩, _⟩ := hw
  obtain ⟨⟨_, _, _, _, ⟨hl, _⟩, _⟩, _⟩ := hs
  have hlen : b.length ≤ 140737488351232 := by
    have : b.length * 1 ≤ 140737488351232 := hl
    omega
  refine ⟨b.length + 60, ?_⟩
  exact (e6 _ _ _ _ _ _ _).trans ((f6_eq (b := b) (B_of hb) (by omega) s c p n _ (by omega) _).trans rfl)
end Go.Proofs.Ytahdmfboidjkoaa.PM

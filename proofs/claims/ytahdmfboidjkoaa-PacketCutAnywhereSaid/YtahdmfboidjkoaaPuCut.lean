/- The machine's run of PacketCutAnywhere is true. -/
import Derived.Test.YtahdmfboidjkoaaPlCut
import Derived.Test.YtahdmfboidjkoaaPuLib
import Derived.Test.YtahdmfboidjkoaaPF
import Derived.Test.YtahdmfboidjkoaaPmRow
namespace Go.Proofs.Ytahdmfboidjkoaa.PM
open Go
set_option maxRecDepth 100000
theorem pure (x : (prodAll [.slice (.int .u8), .int .i64, .slice (.int .i64)]).D) (hw : Wf (prodAll [.slice (.int .u8), .int .i64, .slice (.int .i64)]) x) (hs : Szd (prodAll [.slice (.int .u8), .int .i64, .slice (.int .i64)]) x) : ∃ k, callC (R := Bool) T F k 10 (argsPV [.slice (.int .u8), .int .i64, .slice (.int .i64)] x) [] lawK = some true := by
  obtain ⟨b, n, c, u⟩ := x
  obtain ⟨⟨_, hb⟩, _, _, _⟩ := hw
  obtain ⟨⟨hl, _⟩, _, ⟨hc, _⟩, _⟩ := hs
  have hlen : b.length ≤ 140737488351232 := by
    have : b.length * 1 ≤ 140737488351232 := hl
    omega
  have hlen2 : c.length * 8 ≤ 140737488351232 := hc
  refine ⟨b.length + c.length + 210010, ?_⟩
  exact (e10 _ _ _ _ _).trans ((f10_eq (b := b) (B_of hb) hlen n c hlen2 _ (by omega) _).trans rfl)
end Go.Proofs.Ytahdmfboidjkoaa.PM

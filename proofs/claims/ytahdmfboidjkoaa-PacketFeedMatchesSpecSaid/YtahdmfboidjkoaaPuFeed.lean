/- The machine's run of PacketFeedMatchesSpec on any bytes held, any bytes and any size is true. -/
import Derived.Test.YtahdmfboidjkoaaPlFeed
import Derived.Test.YtahdmfboidjkoaaPuLib
namespace Go.Proofs.Ytahdmfboidjkoaa.PM
open Go
set_option maxRecDepth 100000
theorem pure (x : (prodAll [.slice (.int .u8), .slice (.int .u8), .int .i64]).D) (hw : Wf (prodAll [.slice (.int .u8), .slice (.int .u8), .int .i64]) x) (hs : Szd (prodAll [.slice (.int .u8), .slice (.int .u8), .int .i64]) x) : ∃ k, callC (R := Bool) T F k 9 (argsPV [.slice (.int .u8), .slice (.int .u8), .int .i64] x) [] lawK = some true := by
  obtain ⟨h, b, n, u⟩ := x
  obtain ⟨⟨_, hh⟩, ⟨_, hb⟩, _, _⟩ := hw
  obtain ⟨⟨hl, _⟩, ⟨hm, _⟩, _, _⟩ := hs
  have hlen : h.length ≤ 140737488351232 := by
    have : h.length * 1 ≤ 140737488351232 := hl
    omega
  have hlen2 : b.length ≤ 140737488351232 := by
    have : b.length * 1 ≤ 140737488351232 := hm
    omega
  refine ⟨h.length + b.length + 2020, ?_⟩
  exact (e9 _ _ _ _ _).trans ((f9_eq (h := h) (b := b) (B_of hh) (B_of hb) hlen hlen2 n _ (by omega) _).trans rfl)
end Go.Proofs.Ytahdmfboidjkoaa.PM

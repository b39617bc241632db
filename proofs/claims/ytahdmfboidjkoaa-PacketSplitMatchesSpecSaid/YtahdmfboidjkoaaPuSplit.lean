/- The machine's run of PacketSplitMatchesSpec on any body is true. -/
import Derived.Test.YtahdmfboidjkoaaPlSplit
import Derived.Test.YtahdmfboidjkoaaPuLib
namespace Go.Proofs.Ytahdmfboidjkoaa.PM
open Go
set_option maxRecDepth 100000
theorem pure (x : (prodAll [.int .i64, .bool, .int .i64, .slice (.int .u8), .int .i64]).D) (hw : Wf (prodAll [.int .i64, .bool, .int .i64, .slice (.int .u8), .int .i64]) x) (hs : Szd (prodAll [.int .i64, .bool, .int .i64, .slice (.int .u8), .int .i64]) x) : ∃ k, callC (R := Bool) T F k 5 (argsPV [.int .i64, .bool, .int .i64, .slice (.int .u8), .int .i64] x) [] lawK = some true := by
  obtain ⟨s, c, n, b, m, u⟩ := x
  obtain ⟨_, _, _, ⟨hl, _⟩, _, _⟩ := hs
  have hlen : b.length ≤ 140737488351232 := by
    have : b.length * 1 ≤ 140737488351232 := hl
    omega
  refine ⟨b.length + 2040, ?_⟩
  exact (e5 _ _ _ _ _ _ _).trans ((f5_eq s c n b m (by omega) _ (by omega) _).trans rfl)
end Go.Proofs.Ytahdmfboidjkoaa.PM

/- The machine's run of PacketComesBack on any packet, any bytes behind it and any bit is true. -/
import Derived.Test.YtahdmfboidjkoaaPlComes
import Derived.Test.YtahdmfboidjkoaaPuLib
namespace Go.Proofs.Ytahdmfboidjkoaa.PM
open Go
set_option maxRecDepth 100000
theorem pure (x : (prodAll [.prod (.int .i64) (.prod .bool (.prod (.int .i64) (.prod (.int .i64) (.prod (.slice (.int .u8)) .unit)))), .slice (.int .u8), .int .i64]).D) (hw : Wf (prodAll [.prod (.int .i64) (.prod .bool (.prod (.int .i64) (.prod (.int .i64) (.prod (.slice (.int .u8)) .unit)))), .slice (.int .u8), .int .i64]) x) (hs : Szd (prodAll [.prod (.int .i64) (.prod .bool (.prod (.int .i64) (.prod (.int .i64) (.prod (.slice (.int .u8)) .unit)))), .slice (.int .u8), .int .i64]) x) : ∃ k, callC (R := Bool) T F k 8 (argsPV [.prod (.int .i64) (.prod .bool (.prod (.int .i64) (.prod (.int .i64) (.prod (.slice (.int .u8)) .unit)))), .slice (.int .u8), .int .i64] x) [] lawK = some true := by
  obtain ⟨⟨s, c, p, n, b, _⟩, more, bit, u⟩ := x
  obtain ⟨⟨_, _, _, _, ⟨_, hb⟩, _⟩, ⟨_, hc⟩, _, _⟩ := hw
  obtain ⟨⟨_, _, _, _, ⟨hl, _⟩, _⟩, ⟨hm, _⟩, _, _⟩ := hs
  have hlen : b.length ≤ 140737488351232 := by
    have : b.length * 1 ≤ 140737488351232 := hl
    omega
  have hlen2 : more.length ≤ 140737488351232 := by
    have : more.length * 1 ≤ 140737488351232 := hm
    omega
  refine ⟨b.length + more.length + 1300, ?_⟩
  exact (e8 _ _ _ _ _ _ _ _ _).trans ((f8_eq (b := b) (more := more) (B_of hb) (B_of hc) hlen hlen2 s c p n bit _ (by omega) _).trans rfl)
end Go.Proofs.Ytahdmfboidjkoaa.PM

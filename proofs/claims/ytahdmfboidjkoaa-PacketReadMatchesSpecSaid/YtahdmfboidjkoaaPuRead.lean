/- The machine's run of PacketReadMatchesSpec on any bytes is true. -/
import Derived.Test.YtahdmfboidjkoaaPlRead
import Derived.Test.YtahdmfboidjkoaaPF
import Derived.Test.YtahdmfboidjkoaaPmRow
namespace Go.Proofs.Ytahdmfboidjkoaa.PM
open Go
set_option maxRecDepth 100000
theorem B_of {l : List Int} (h : ∀ x ∈ l, (Lit.int .u8 x).wf = true) : B l := fun x hx => by
  have := bounds_u8 (h x hx); omega
theorem pure (x : (prodAll [.slice (.int .u8)]).D) (hw : Wf (prodAll [.slice (.int .u8)]) x) (hs : Szd (prodAll [.slice (.int .u8)]) x) : ∃ k, callC (R := Bool) T F k 4 (argsPV [.slice (.int .u8)] x) [] lawK = some true := by
  obtain ⟨l, u⟩ := x
  obtain ⟨⟨_, hb⟩, _⟩ := hw
  obtain ⟨⟨hl, _⟩, _⟩ := hs
  have hlen : l.length ≤ 140737488351232 := by
    have : l.length * 1 ≤ 140737488351232 := hl
    omega
  refine ⟨l.length + 40, ?_⟩
  exact (e4 _ _ _).trans ((f4_eq (l := l) (B_of hb) (by omega) _ (by omega) _).trans rfl)
end Go.Proofs.Ytahdmfboidjkoaa.PM

/- What the closing parts of all laws of this seat use. -/
import Derived.Test.YtahdmfboidjkoaaPlWords
import Derived.Test.YtahdmfboidjkoaaPF
import Derived.Test.YtahdmfboidjkoaaPmRow
namespace Go.Proofs.Ytahdmfboidjkoaa.PM
open Go
theorem B_of {l : List Int} (h : ∀ x ∈ l, (Lit.int .u8 x).wf = true) : B l := fun x hx => by
  have := bounds_u8 (h x hx); omega
theorem i64_of {x : Int} (h : (Lit.int .i64 x).wf = true) : -9223372036854775808 ≤ x ∧ x < 9223372036854775808 := by
  have := bounds_i64 h; omega
end Go.Proofs.Ytahdmfboidjkoaa.PM

/- The machine's run of TopCommandsAreTransferred is true. -/
import Derived.Test.YtoepnomdklhhlaaGreatPlTopC2
import Derived.Test.YtoepnomdklhhlaaGreatPF
import Derived.Test.YtoepnomdklhhlaaGreatPmRow
namespace Go.Proofs.YtoepnomdklhhlaaGreat.PM
open Go
set_option maxRecDepth 100000
abbrev tysT : List Ty := [.prod (.int .i64) (.prod (.int .i64) (.prod (.int .i64) (.prod (.int .i64) (.prod (.int .i64) .unit)))), .int .i64, .slice (.int .i64), .slice .bool, .slice .bool]
theorem pure (x : (prodAll tysT).D) (hw : Wf (prodAll tysT) x) (hs : Szd (prodAll tysT) x) : ∃ k, callC (R := Bool) T F k 4 (argsPV tysT x) [] lawK = some true := by
  obtain ⟨x0, x1, x2, x3, x4, u⟩ := x
  obtain ⟨_, _, hn, _⟩ := hs
  obtain ⟨_, hkey, ⟨_, hcnt⟩, _⟩ := hw
  have h2 : x2.length * 8 ≤ 140737488351232 := hn.1
  have hk : -9223372036854775808 ≤ x1 ∧ x1 < 9223372036854775808 := by
    have : -9223372036854775808 ≤ x1 ∧ x1 ≤ 9223372036854775807 := bounds_i64 hkey
    exact ⟨this.1, Int.lt_of_le_of_lt this.2 (by decide)⟩
  have hv : ∀ v ∈ x2, -9223372036854775808 ≤ v ∧ v < 9223372036854775808 := fun v hv => by
    have : -9223372036854775808 ≤ v ∧ v ≤ 9223372036854775807 := bounds_i64 (hcnt v hv)
    exact ⟨this.1, Int.lt_of_le_of_lt this.2 (by decide)⟩
  refine ⟨1500001, ?_⟩
  exact (e4 _ _ _ _ _ _ _ _ _ _ _ ).trans ((f4_eq x0.1 x0.2.1 x0.2.2.1 x0.2.2.2.1 x0.2.2.2.2.1 x1 x2 x3 x4 (by omega) (by omega) hk hv _).trans rfl)
end Go.Proofs.YtoepnomdklhhlaaGreat.PM

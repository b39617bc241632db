/- Plain laws of commands: what is written is read. -/
import Derived.Test.YtadkplikobhckaaPlB
set_option linter.unusedSimpArgs false
set_option linter.unusedVariables false
namespace Go.Proofs.Ytadkplikobhckaa.PM
open Go Go.Proofs.Ytadkplikobhckaa.Bt
variable {R : Type}

theorem inB_iff {a lo hi : Int} : inB a lo hi = true ↔ lo ≤ a ∧ a ≤ hi := by simp [inB]
theorem wrap_u8 {a : Int} (h0 : 0 ≤ a) (h1 : a ≤ 255) : IntKind.u8.wrap a = a := by
  simp [IntKind.wrap, IntKind.bits, IntKind.signed]; omega
theorem chkOrder_ok {a b : Int} {n : Nat} (h : chkOrder a b n = 0) : (1 ≤ a ∧ a ≤ 5) ∧ (0 ≤ b ∧ b ≤ 255) := by
  unfold chkOrder at h
  cases hi : inB a 1 5
  · simp [hi] at h
  · cases hj : inB b 0 255
    · simp [hi, hj] at h
    · exact ⟨inB_iff.1 hi, inB_iff.1 hj⟩
theorem readOrder_bytes {a b : Int} {l : List Int} (h : chkOrder a b l.length = 0) : readOrder (IntKind.u8.wrap a :: IntKind.u8.wrap b :: l) = (a, b, 0, l) := by
  obtain ⟨⟨h1, h2⟩, h3, h4⟩ := chkOrder_ok h
  have ea : IntKind.u8.wrap a = a := wrap_u8 (by omega) (by omega)
  have eb : IntKind.u8.wrap b = b := wrap_u8 (by omega) (by omega)
  have ea' : IntKind.i64.wrap a = a := wraps_i64 _ (by omega) (by omega)
  have eb' : IntKind.i64.wrap b = b := wraps_i64 _ (by omega) (by omega)
  simp [readOrder, ea, eb, ea', eb', h]
end Go.Proofs.Ytadkplikobhckaa.PM

/- Plain laws of commands: orders and reports. -/
import Derived.Test.YtadkplikobhckaaPT
import Derived.Test.YtadkplikobhckaaBt
set_option linter.unusedSimpArgs false
set_option linter.unusedVariables false
namespace Go.Proofs.Ytadkplikobhckaa.PM
open Go Go.Proofs.Ytadkplikobhckaa.Bt
variable {R : Type}

theorem succ_of {k n : Nat} (h : n < k) : ∃ j, k = j + 1 := ⟨k - 1, by omega⟩

theorem beq_dec (a b : Int) : (a == b) = decide (a = b) := rfl
theorem bne_dec (a b : Int) : (a != b) = !decide (a = b) := rfl
def inB (a lo hi : Int) : Bool := decide (lo ≤ a) && decide (a ≤ hi)
theorem f62_eq {k : Nat} (hk : 0 < k) (a lo hi : Int) (K : Bool → Option R) : f62 k a lo hi K = K (inB a lo hi) := by
  rw [f62_def]
  obtain ⟨k, rfl⟩ := succ_of hk
  simp only [f62d, inB]
  cases decide (lo ≤ a) <;> rfl
theorem f63_eq {k : Nat} (hk : 0 < k) (a lo hi : Int) (K : Bool → Option R) : f63 k a lo hi K = K (inB a lo hi) := by
  rw [f63_def]
  obtain ⟨k, rfl⟩ := succ_of hk
  simp only [f63d, inB]
  cases decide (lo ≤ a) <;> rfl
def chkBody (n : Nat) : Int := if n = 0 then 9 else if 200 < n then 2 else 0
theorem f70_eq {k : Nat} (hk : 0 < k) (b : List Int) (K : Int → Option R) : f70 k b K = K (chkBody b.length) := by
  rw [f70_def]
  obtain ⟨k, rfl⟩ := succ_of hk
  simp only [f70d, chkBody, Bool.cond_eq_ite, beq_iff_eq, decide_eq_true_eq]
  repeat' split
  all_goals first | rfl | omega
theorem f72_eq {k : Nat} (hk : 0 < k) (b : List Int) (K : Int → Option R) : f72 k b K = K (chkBody b.length) := by
  rw [f72_def]
  obtain ⟨k, rfl⟩ := succ_of hk
  simp only [f72d, chkBody, Bool.cond_eq_ite, beq_iff_eq, decide_eq_true_eq]
  repeat' split
  all_goals first | rfl | omega
def chkOrder (kind num : Int) (n : Nat) : Int :=
  if inB kind 1 5 = false then 4 else if inB num 0 255 = false then 1 else if num ≠ 0 ∧ kind ≠ 1 ∧ kind ≠ 4 then 1
  else if kind = 1 ∨ kind = 2 then chkBody n else if 0 < n then 3 else 0
end Go.Proofs.Ytadkplikobhckaa.PM

/- Plain laws of commands: orders and reports. -/
import Derived.Test.YtadkplikobhckaaPT
import Derived.Test.YtadkplikobhckaaBt
set_option linter.unusedSimpArgs false
set_option linter.unusedVariables false
namespace Go.Proofs.Ytadkplikobhckaa.PM
open Go Go.Proofs.Ytadkplikobhckaa.Bt
variable {R : Type}

theorem succ_of {k n : Nat} (h : n < k) : ∃ j, k = j + 1 := ⟨k - 1, by omega⟩

theorem beq_dec (a b : Int) : (a == b) = decide (a = b) := rfl
theorem bne_dec (a b : Int) : (a != b) = !decide (a = b) := rfl
def inB (a lo hi : Int) : Bool := decide (lo ≤ a) && decide (a ≤ hi)
theorem f62_eq {k : Nat} (hk : 0 < k) (a lo hi : Int) (K : Bool → Option R) : f62 k a lo hi K = K (inB a lo hi) := by
  rw [f62_def]
  obtain ⟨k, rfl⟩ := succ_of hk
  simp only [f62d, inB]
  cases decide (lo ≤ a) <;> rfl
theorem f63_eq {k : Nat} (hk : 0 < k) (a lo hi : Int) (K : Bool → Option R) : f63 k a lo hi K = K (inB a lo hi) := by
  rw [f63_def]
  obtain ⟨k, rfl⟩ := succ_of hk
  simp only [f63d, inB]
  cases decide (lo ≤ a) <;> rfl
def chkBody (n : Nat) : Int := if n = 0 then 9 else if 200 < n then 2 else 0
theorem f70_eq {k : Nat} (hk : 0 < k) (b : List Int) (K : Int → Option R) : f70 k b K = K (chkBody b.length) := by
  rw [f70_def]
  obtain ⟨k, rfl⟩ := succ_of hk
  simp only [f70d, chkBody, Bool.cond_eq_ite, beq_iff_eq, decide_eq_true_eq]
  repeat' split
  all_goals first | rfl | omega
theorem f72_eq {k : Nat} (hk : 0 < k) (b : List Int) (K : Int → Option R) : f72 k b K = K (chkBody b.length) := by
  rw [f72_def]
  obtain ⟨k, rfl⟩ := succ_of hk
  simp only [f72d, chkBody, Bool.cond_eq_ite, beq_iff_eq, decide_eq_true_eq]
  repeat' split
  all_goals first | rfl | omega
theorem f90_eq {k : Nat} (hk : 0 < k) (a : Int) (K : Bool → Option R) : f90 k a K = K (decide (a = 1 ∨ a = 4)) := by
  rw [f90_def]
  obtain ⟨k, rfl⟩ := succ_of hk
  simp only [f90d, beq_dec]
  by_cases h : a = 1 <;> simp [h]
theorem f91_eq {k : Nat} (hk : 0 < k) (a : Int) (K : Bool → Option R) : f91 k a K = K (decide (a = 1 ∨ a = 2)) := by
  rw [f91_def]
  obtain ⟨k, rfl⟩ := succ_of hk
  simp only [f91d, beq_dec]
  by_cases h : a = 1 <;> simp [h]
def chkOrder (kind num : Int) (n : Nat) : Int :=
  if inB kind 1 5 = false then 4 else if inB num 0 255 = false then 1 else if num ≠ 0 ∧ kind ≠ 1 ∧ kind ≠ 4 then 1
  else if kind = 1 ∨ kind = 2 then chkBody n else if 0 < n then 3 else 0
theorem f60_eq {k : Nat} (hk : 1 < k) (kind num : Int) (b : List Int) (K : Int → Option R) : f60 k kind num b K = K (chkOrder kind num b.length) := by
  rw [f60_def]
  obtain ⟨k, rfl⟩ := succ_of hk
  have h0 : 0 < k := by omega
  simp only [f60d, f62_eq h0, f70_eq h0, beq_dec, bne_dec, chkOrder]
  by_cases h1 : kind = 1
  · subst h1; cases hi : inB 1 1 5 <;> cases hj : inB num 0 255 <;> simp
  by_cases h2 : kind = 2
  · subst h2; cases hi : inB 2 1 5 <;> cases hj : inB num 0 255 <;> by_cases hn : num = 0 <;> simp [hn]
  by_cases h4 : kind = 4
  · subst h4; cases hi : inB 4 1 5 <;> cases hj : inB num 0 255 <;> by_cases hl : 0 < b.length <;> simp [hl]
  cases hi : inB kind 1 5 <;> cases hj : inB num 0 255 <;> by_cases hn : num = 0 <;> by_cases hl : 0 < b.length <;> simp [h1, h2, h4, hn, hl]
theorem f61_eq {k : Nat} (hk : 1 < k) (kind num : Int) (b : List Int) (K : Int → Option R) : f61 k kind num b K = K (chkOrder kind num b.length) := by
  rw [f61_def]
  obtain ⟨k, rfl⟩ := succ_of hk
  have h0 : 0 < k := by omega
  simp only [f61d, f63_eq h0, f72_eq h0, f90_eq h0, f91_eq h0, beq_dec, bne_dec, chkOrder]
  by_cases h1 : kind = 1
  · subst h1; cases hi : inB 1 1 5 <;> cases hj : inB num 0 255 <;> by_cases hn : num = 0 <;> simp [hn]
  by_cases h2 : kind = 2
  · subst h2; cases hi : inB 2 1 5 <;> cases hj : inB num 0 255 <;> by_cases hn : num = 0 <;> simp [hn]
  by_cases h4 : kind = 4
  · subst h4; cases hi : inB 4 1 5 <;> cases hj : inB num 0 255 <;> by_cases hn : num = 0 <;> by_cases hl : 0 < b.length <;> simp [hl, hn]
  cases hi : inB kind 1 5 <;> cases hj : inB num 0 255 <;> by_cases hn : num = 0 <;> by_cases hl : 0 < b.length <;> simp [h1, h2, h4, hn, hl]
end Go.Proofs.Ytadkplikobhckaa.PM

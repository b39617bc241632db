/- Plain laws of signed commands: the check of keys. -/
import Derived.Test.YtadkplikobhckaaPlSign
set_option linter.unusedSimpArgs false
set_option linter.unusedVariables false
namespace Go.Proofs.Ytadkplikobhckaa.PM
open Go Go.Proofs.Ytadkplikobhckaa.Bt
variable {R : Type}
theorem f62k {k : Nat} (hk : 0 < k) (a lo hi : Int) (K : Bool → Option R) : f62 k a lo hi K = K (inB a lo hi) := by
  obtain ⟨j, rfl⟩ := succ_of hk
  rw [f62_def]
  simp only [f62d, inB]
  cases decide (lo ≤ a) <;> rfl
/-- The answer of the walk over the counters taken, from one on, p the one before. -/
def keyF (lo hi : Int) : Option Int → List Int → Int
  | _, [] => 0
  | p, x :: l => bif !inB x lo hi then 1 else bif (match p with | none => false | some y => decide (x ≤ y)) then 8 else keyF lo hi (some x) l
theorem f48_loop (k : Nat) (hk : 0 < k) (K : Int → Option R) (x1 : Option R) (hx : x1 = K 0) (l : List Int) (a b : Int) (hl : l.length < 2 ^ 40) (hb0 : 0 ≤ b) (hb : b ≤ 1000000001) : ∀ (d i f : Nat), i + d = l.length → d < f → f48_1d k K x1 l (l.length : Int) a b l f (i : Int) = K (keyF (b + 1) (if 1000000000 < b + 64 then 1000000000 else b + 64) (if i = 0 then none else some (l.getD (i - 1) 0)) (l.drop i)) := by
  intro d
  have w1 : IntKind.i64.wrap (b + 1) = b + 1 := wi (by omega) (by omega)
  have w2 : IntKind.i64.wrap (b + 64) = b + 64 := wi (by omega) (by omega)
  induction d with
  | zero =>
    intro i f hi hf
    obtain ⟨f, rfl⟩ := succ_of hf
    have h : decide ((i : Int) < (l.length : Int)) = false := by simp only [decide_eq_false_iff_not]; omega
    have hd : l.drop i = [] := List.drop_eq_nil_of_le (by omega)
    simp only [f48_1d, f48_1b, h, cond_false, hd, hx, keyF]
  | succ d ih =>
    intro i f hi hf
    obtain ⟨f, rfl⟩ := succ_of (show 0 < f by omega)
    have h1 : decide ((i : Int) < (l.length : Int)) = true := by simp only [decide_eq_true_eq]; omega
    have h2 : decide ((0 : Int) ≤ (i : Int)) = true := by simp only [decide_eq_true_eq]; omega
    have hlt : i < l.length := by omega
    have hw : IntKind.i64.wrap ((i : Int) + 1) = ((i + 1 : Nat) : Int) := by rw [wi (by omega) (by omega)]; rfl
    have hd : l.drop i = l[i] :: l.drop (i + 1) := List.drop_eq_getElem_cons hlt
    have hn := ih (i + 1) f (by omega) (by omega)
    rw [if_neg (Nat.succ_ne_zero i), Nat.add_sub_cancel, getD_in hlt] at hn
    simp only [f48_1d, f48_1b, h1, h2, Bool.and_self, cond_true, Int.toNat_natCast, getD_in hlt, hw, w1, w2, f62k hk, hd, keyF]
    cases inB l[i] (b + 1) (if 1000000000 < b + 64 then 1000000000 else b + 64) with
    | false => simp only [Bool.not_false, cond_true]
    | true =>
      simp only [Bool.not_true, cond_false]
      cases i with
      | zero => exact hn
      | succ i =>
        have g1 : (decide (((i + 1 : Nat) : Int) > 0) == true) = true := by simp only [beq_iff_eq, decide_eq_true_eq]; omega
        have g2 : IntKind.i64.wrap (((i + 1 : Nat) : Int) - 1) = (i : Int) := by rw [wi (by omega) (by omega)]; omega
        have g3 : decide ((0 : Int) ≤ (i : Int)) = true := by simp only [decide_eq_true_eq]; omega
        have g4 : decide ((i : Int) < (l.length : Int)) = true := by simp only [decide_eq_true_eq]; omega
        rw [if_neg (Nat.succ_ne_zero i), Nat.add_sub_cancel]
        simp only [g1, g2, g3, g4, Bool.and_self, cond_true, Int.toNat_natCast, hn]
        cases decide (l[i + 1] ≤ l.getD i 0) <;> rfl
/-- What the check of a key, a least counter and the counters taken answers. -/
def keysF (c n : Int) (l : List Int) : Int :=
  bif !inB c 0 1000000000000000 then 1 else bif !inB n 0 1000000001 then 1 else bif decide (64 < l.length) then 2 else keyF (n + 1) (if 1000000000 < n + 64 then 1000000000 else n + 64) none l
theorem f48_eq {k : Nat} (hk : 70 < k) (c n : Int) (l : List Int) (K : Int → Option R) : f48 k c n l K = K (keysF c n l) := by
  obtain ⟨j, rfl⟩ := succ_of (show 0 < k by omega)
  rw [f48_def]
  simp only [f48d, f62k (show 0 < j by omega), keysF]
  cases inB c 0 1000000000000000 with
  | false => rfl
  | true =>
    cases hn : inB n 0 1000000001 with
    | false => rfl
    | true =>
      have hb := inB_iff.1 hn
      by_cases h : 64 < l.length
      · have h1 : decide ((l.length : Int) > 64) = true := by simp only [decide_eq_true_eq]; omega
        have h2 : decide (64 < l.length) = true := by simp only [decide_eq_true_eq]; omega
        simp only [h1, h2, Bool.not_true, cond_false, cond_true]
        rfl
      · have h1 : decide ((l.length : Int) > 64) = false := by simp only [decide_eq_false_iff_not]; omega
        have h2 : decide (64 < l.length) = false := by simp only [decide_eq_false_iff_not]; omega
        simp only [h1, h2, Bool.not_true, cond_false]
        have e := f48_loop (R := R) j (by omega) K (K 0) rfl l c n (by omega) hb.1 hb.2 l.length 0 j (by omega) (by omega)
        rw [f48_1_def]
        exact e
theorem f50_eq {k : Nat} (hk : 71 < k) (c n : Int) (l b : List Int) (K : Int → Int → Int → Int → List Int → List Int → Option R) : ∃ j, k = j + 1 ∧ f50 k c n l b K = (bif (keysF c n l != 0) then K 0 0 0 (keysF c n l) [] [] else f84 j c n l b K) := by
  obtain ⟨j, rfl⟩ := succ_of (show 0 < k by omega)
  refine ⟨j, rfl, ?_⟩
  rw [f50_def]
  simp only [f50d]
  rw [f48_eq (by omega)]
end Go.Proofs.Ytadkplikobhckaa.PM

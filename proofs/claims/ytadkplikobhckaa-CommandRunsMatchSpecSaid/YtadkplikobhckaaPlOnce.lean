/- Plain laws of commands: of commands one behind the other each number is taken once. -/
import Derived.Test.YtadkplikobhckaaPlTakes
set_option linter.unusedSimpArgs false
set_option linter.unusedVariables false
namespace Go.Proofs.Ytadkplikobhckaa.PM
open Go Go.Proofs.Ytadkplikobhckaa.Bt
variable {R : Type}

abbrev Or := Int × (Int × (List Int × Unit))
theorem takeF_ok {b : Bd} {kind num : Int} {n : Nat} (h : (takeF b kind num n).2 = 0) : chkBoard b = 0 ∧ chkOrder kind num n = 0 ∧ (takeF b kind num n).1 = takeS b kind num := by
  unfold takeF at h ⊢
  by_cases hb : chkBoard b = 0
  · by_cases ho : chkOrder kind num n = 0
    · simp only [hb, ho, ne_eq, not_true_eq_false, if_false] at h ⊢
      split at h
      · cases h
      · rename_i h'; simp [h']
    · simp [hb, ho] at h
  · simp [hb] at h
theorem takeS_next {b : Bd} (hb : chkBoard b = 0) (kind num : Int) :
    (kind = 1 → (takeS b kind num).2 = 1 → num = b.n ∧ (takeS b kind num).1.t = b.t + 1 ∧ (takeS b kind num).1.n = (b.n + 1) % 256) ∧
    (kind = 1 → (takeS b kind num).2 ≠ 1 → (takeS b kind num).1.n = b.n) ∧
    (kind = 4 → (takeS b kind num).2 = 7 → (takeS b kind num).1.n = num) ∧
    (kind = 4 → (takeS b kind num).2 ≠ 7 → (takeS b kind num).1.n = b.n) ∧
    (kind ≠ 1 → kind ≠ 4 → (takeS b kind num).1.n = b.n) := by
  refine ⟨?_, ?_, ?_, ?_, ?_⟩
  · rintro rfl
    simp only [takeS, plainS, if_true]
    split
    · simp
    · split
      · split
        · simp
        · rename_i h _; simp [h]
      · split
        · simp
        · split <;> simp
  · rintro rfl
    simp only [takeS, plainS, if_true]
    split
    · simp
    · split
      · split <;> simp
      · split
        · simp
        · split <;> simp
  · rintro rfl
    simp only [takeS]
    cases b.L <;> simp
  · rintro rfl
    simp only [takeS]
    by_cases h : b.L = true <;> simp [h]
  · intro h1 h4
    simp only [takeS, h1, h4, if_false]
    split
    · rfl
    · split <;> rfl
theorem once_loop (k : Nat) (hk : 20 < k) (x0 : Option R) (K : Bool → Option R) (l : List Or) (hl : l.length < 4611686018427387904) : ∀ (d f i : Nat) (b : Bd), i + d = l.length → d < f →
    f5_0d k x0 K l (l.length : Int) f b.n (i : Int) b.n b.w b.L b.Rt b.W b.t = x0
  | d, 0, i, _, _, h => absurd h (Nat.not_lt_zero _)
  | 0, f + 1, i, b, hi, _ => by
    have h1 : decide ((i : Int) < (l.length : Int)) = false := by simp only [decide_eq_false_iff_not]; omega
    simp only [f5_0d, f5_0b, h1, cond_false]
  | d + 1, f + 1, i, b, hi, hf => by
    have h1 : decide ((i : Int) < (l.length : Int)) = true := by simp only [decide_eq_true_eq]; omega
    have h0 : decide ((0 : Int) ≤ (i : Int)) = true := by simp
    have hw : IntKind.i64.wrap ((i : Int) + 1) = ((i + 1 : Nat) : Int) := by rw [wraps_i64 _ (by omega) (by omega)]; omega
    simp only [f5_0d, f5_0b, h1, h0, cond_true, Bool.and_self, Int.toNat_natCast, hw, f5_1_def, f5_1d]
    generalize l.getD i _ = c
    obtain ⟨kind, num, body, _⟩ := c
    by_cases h100 : (i : Int) ≥ 100
    · simp only [h100, decide_true, cond_true]
    · simp only [h100, decide_false, cond_false, f27_eq (show 5 < k by omega), ap8, bne_dec]
      by_cases ho : (takeF b kind num body.length).2 = 0
      · obtain ⟨hb, hc, e⟩ := takeF_ok ho
        obtain ⟨n1, n2, n3, n4, n5⟩ := takeS_next hb kind num
        obtain ⟨g1, g2, g3⟩ := chkBoard_ok hb
        have ih := once_loop k hk x0 K l hl d f (i + 1) (takeS b kind num).1 (by omega) (by omega)
        rw [ho, e]
        simp only [decide_true, Bool.not_true, cond_false, beq_dec, f5_1000009_def, f5_1000009d, f5_1000013_def, f5_1000013d]
        rw [wi (n := b.t + 1) (by omega) (by omega), wi (n := b.n + 1) (by omega) (by omega), tmod_nn (by omega)]
        by_cases k1 : kind = 1
        · subst k1
          by_cases w1 : (takeS b 1 num).2 = 1
          · obtain ⟨a1, a2, a3⟩ := n1 rfl w1
            subst a1
            rw [a3, a2] at ih
            simp [w1, a2, a3]
            exact ih
          · have a := n2 rfl w1
            rw [a] at ih
            simp [w1, a]
            exact ih
        · by_cases k4 : kind = 4
          · subst k4
            by_cases w7 : (takeS b 4 num).2 = 7
            · have a := n3 rfl w7
              rw [a] at ih
              simp [w7, a]
              exact ih
            · have a := n4 rfl w7
              rw [a] at ih
              simp [w7, a]
              exact ih
          · have a := n5 k1 k4
            rw [a] at ih
            simp [k1, k4, a]
            exact ih
      · have ih := once_loop k hk x0 K l hl d f (i + 1) b (by omega) (by omega)
        simp only [ho, decide_false, Bool.not_false, cond_true]
        exact ih
theorem f5_eq {k : Nat} {l : List Or} (hk : l.length + 30 < k) (hl : l.length < 4611686018427387904) (b : Bd) (K : Bool → Option R) : f5 k b.n b.w b.L b.Rt b.W b.t l K = K true := by
  rw [f5_def]
  obtain ⟨k, rfl⟩ := succ_of (show 0 < k by omega)
  simp only [f5d, f5_0_def]
  exact (once_loop k (by omega) _ _ l hl l.length k 0 b (by omega) (by omega)).trans (by rw [f21_eq (by omega)])
end Go.Proofs.Ytadkplikobhckaa.PM

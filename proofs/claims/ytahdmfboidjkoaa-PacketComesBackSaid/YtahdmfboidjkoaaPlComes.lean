/- The law that a packet comes back. -/
import Derived.Test.YtahdmfboidjkoaaPlBack
set_option linter.unusedSimpArgs false
set_option linter.unusedVariables false
namespace Go.Proofs.Ytahdmfboidjkoaa.PM
open Go Go.Proofs.Ytahdmfboidjkoaa.Bt Go.Proofs.Ytahdmfboidjkoaa.Crc
variable {R : Type}

theorem flips : ∀ x : Nat, x < 256 → ∀ j : Nat, j < 8 → 0 ≤ bits .xor .u8 (x : Int) (Int.fdiv 128 (2 ^ min j 8)) ∧ bits .xor .u8 (x : Int) (Int.fdiv 128 (2 ^ min j 8)) < 256 ∧ bits .xor .u8 (x : Int) (Int.fdiv 128 (2 ^ min j 8)) ≠ (x : Int) := by decide +kernel
theorem f42_eq (k : Nat) (hk : 0 < k) (a b : Int) (h0 : 0 < b) (h1 : b < 4611686018427387904) (K : Int → Option R) : f42 k a b K = K (a % b) := by
  rw [f42_def]
  obtain ⟨k, rfl⟩ : ∃ j, k = j + 1 := ⟨k - 1, by omega⟩
  have e : (!(b == 0)) = true := by simp; omega
  simp only [f42d, e, cond_true, f42_1000003_def, f42_1000003d]
  have t := Int.emod_emod_of_dvd a (Int.dvd_refl b)
  have m0 := Int.emod_nonneg a (show b ≠ 0 by omega)
  have m1 := Int.emod_lt_of_pos a h0
  have lt := Int.tmod_lt_of_pos a h0
  have tm : Int.tmod a b = a % b ∨ (Int.tmod a b < 0 ∧ Int.tmod a b + b = a % b) := by
    have := Int.tmod_eq_emod (a := a) (b := b)
    split at this
    · left; omega
    · have hn : (b.natAbs : Int) = b := by omega
      by_cases hz : a % b = 0
      · exfalso; rename_i hh; exact hh (Or.inr (Int.dvd_of_emod_eq_zero hz))
      · right; omega
  rcases tm with tm | ⟨tm, tm'⟩
  · have e2 : decide (Int.tmod a b < 0) = false := by rw [tm]; simp only [decide_eq_false_iff_not]; omega
    rw [e2, cond_false, tm]
  · have e2 : decide (Int.tmod a b < 0) = true := by simp only [decide_eq_true_eq]; exact tm
    rw [e2, cond_true, tm', wraps_i64 _ (by omega) (by omega)]
theorem f8_eq {b more : List Int} (hB : B b) (hM : B more) (hl : b.length ≤ 140737488351232) (hm : more.length ≤ 140737488351232) (s : Int) (c : Bool) (p n bit : Int) (k : Nat) (hk : b.length + more.length + 1200 < k) (K : Bool → Option R) : f8 k s c p n b more bit K = K true := by
  rw [f8_def]
  obtain ⟨k, rfl⟩ : ∃ j, k = j + 1 := ⟨k - 1, by omega⟩
  simp only [f8d]
  rw [f28_eq hB s c p n k (by omega)]
  by_cases h : chk s p n b = 0
  · have e : (chk s p n b != 0) = false := by rw [h]; rfl
    have hr := chk_right h
    have hb : bytesP s c p n b = raw s c p n b := by unfold bytesP; rw [if_pos h]
    have hL := raw_len s c p n b
    have hb5 := hr.2.2.2
    rw [e, cond_false, hb]
    have hf : [raw s c p n b, more].flatten = raw s c p n b ++ more := by simp
    rw [f40_eq _ (by simp) (by rw [hf, List.length_append, hL]; omega) k (by simp; omega), hf]
    rw [f22_eq ((raw_B s c p n hB).app hM) (by rw [List.length_append, hL]; omega) k (by rw [List.length_append, hL]; omega), readR_raw hr hB c more]
    simp only [Rd.app, bne_self_eq_false, beq_self_eq_true, cond_true, hL]
    have e2 : (((b.length : Int) + 8 != ((b.length + 8 : Nat) : Int)) == false) = true := by
      have : (b.length : Int) + 8 = ((b.length + 8 : Nat) : Int) := by omega
      rw [this, bne_self_eq_false]; rfl
    rw [e2, cond_true, f24_eq k _ _ _ _ _ _ _ _ _ _ (by omega) (by omega)]
    simp only [and_self, decide_true, Bool.not_true, cond_false]
    rw [f41_eq _ (by omega) k (by omega)]
    have e3 : IntKind.i64.wrap (((b.length + 8 : Nat) : Int) - 6) = (b.length : Int) + 2 := by rw [wraps_i64 _ (by omega) (by omega)]; omega
    have e4 : IntKind.i64.wrap (8 * ((b.length : Int) + 2)) = 8 * ((b.length : Int) + 2) := wraps_i64 _ (by omega) (by omega)
    rw [e3, e4, f42_eq k (by omega) bit _ (by omega) (by omega)]
    have m0 := Int.emod_nonneg bit (show 8 * ((b.length : Int) + 2) ≠ 0 by omega)
    have m1 := Int.emod_lt_of_pos bit (show 0 < 8 * ((b.length : Int) + 2) by omega)
    generalize bit % (8 * ((b.length : Int) + 2)) = r at *
    have d1 : Int.tdiv r 8 = r / 8 := Int.tdiv_eq_ediv_of_nonneg m0
    have d2 : Int.tmod r 8 = r % 8 := Int.tmod_eq_emod_of_nonneg m0
    have e5 : IntKind.i64.wrap (r / 8) = r / 8 := wraps_i64 _ (by omega) (by omega)
    have e6 : IntKind.i64.wrap (6 + r / 8) = ((6 + r / 8).toNat : Int) := by rw [wraps_i64 _ (by omega) (by omega)]; omega
    have e7 : ((6 + r / 8).toNat : Int) = 6 + r / 8 := by omega
    rw [d1, d2, e5, e6]
    generalize hi : (6 + r / 8).toNat = i at *
    have c1 : decide ((0 : Int) ≤ (i : Int)) = true := by simp
    have c2 : decide ((i : Int) < ((b.length + 8 : Nat) : Int)) = true := by simp only [decide_eq_true_eq]; omega
    have c3 : decide ((0 : Int) ≤ r % 8) = true := by simp only [decide_eq_true_eq]; omega
    simp only [hL, c1, c2, c3, Bool.and_self, cond_true, Int.toNat_natCast]
    have hg := (raw_B s c p n hB).getD i
    obtain ⟨g0, g1, g2⟩ := flips ((raw s c p n b).getD i 0).toNat (by omega) (r % 8).toNat (by omega)
    rw [show (((raw s c p n b).getD i 0).toNat : Int) = (raw s c p n b).getD i 0 by omega] at g0 g1 g2
    have hset : ∀ x, 0 ≤ x → x < 256 → B ((raw s c p n b).set i x) := fun x x0 x1 y hy => by
      rcases List.mem_or_eq_of_mem_set hy with hy | rfl
      · exact raw_B s c p n hB y hy
      · exact ⟨x0, x1⟩
    rw [f22_eq (hset _ g0 g1) (by rw [List.length_set, hL]; omega) k (by rw [List.length_set, hL]; omega), readR_flip hr hB c (by omega) (by omega) g0 g1 g2]
    simp only [Rd.bad, Rd.app, beq_self_eq_true, cond_true]
    rw [f21_eq k (by omega)]
  · have e : (chk s p n b != 0) = true := bne_iff_ne.2 h
    have hb : bytesP s c p n b = [] := by unfold bytesP; rw [if_neg h]
    rw [e, cond_true, hb]
    simp only [List.length_nil]
    have : ((((0 : Nat) : Int) == 0) == true) = true := rfl
    rw [this, cond_true, f21_eq k (by omega)]
end Go.Proofs.Ytahdmfboidjkoaa.PM

/- Plain laws of flash memories: tests, sums, copies. -/
import Derived.Test.YtecnlienmpdlaaaPT
import Derived.Test.YtecnlienmpdlaaaBt
set_option linter.unusedSimpArgs false
set_option linter.unusedVariables false
namespace Go.Proofs.Ytecnlienmpdlaaa.PM
open Go Go.Proofs.Ytecnlienmpdlaaa.Bt
variable {R : Type}

theorem succ_of {k n : Nat} (h : n < k) : ∃ j, k = j + 1 := ⟨k - 1, by omega⟩
theorem beq_dec (a b : Int) : (a == b) = decide (a = b) := rfl
theorem bne_dec (a b : Int) : (a != b) = !decide (a = b) := rfl
theorem wi {n : Int} (h0 : -9223372036854775808 ≤ n) (h1 : n < 9223372036854775808) : IntKind.i64.wrap n = n := by rw [IntKind.wrap_i64]; omega
theorem tmod_nn {a b : Int} (h : 0 ≤ a) : Int.tmod a b = a % b := Int.tmod_eq_emod_of_nonneg h
theorem tdiv_nn {a b : Int} (h : 0 ≤ a) : Int.tdiv a b = a / b := Int.tdiv_eq_ediv_of_nonneg h
def inB (a lo hi : Int) : Bool := decide (lo ≤ a) && decide (a ≤ hi)
theorem inB_iff {a lo hi : Int} : inB a lo hi = true ↔ lo ≤ a ∧ a ≤ hi := by simp [inB]
theorem LIM1 : LIM 1 = 140737488355328 := by simp [LIM]
theorem LIM8 : LIM 8 = 17592186044416 := by simp [LIM]
theorem getD_in {l : List Int} {i : Nat} (h : i < l.length) : l.getD i 0 = l[i] := by rw [List.getD_eq_getElem?_getD, List.getElem?_eq_getElem h]; rfl

theorem f52_eq {k : Nat} (hk : 0 < k) (a lo hi : Int) (K : Bool → Option R) : f52 k a lo hi K = K (inB a lo hi) := by
  rw [f52_def]
  obtain ⟨k, rfl⟩ := succ_of hk
  simp only [f52d, inB]
  cases decide (lo ≤ a) <;> rfl
theorem f41_eq {k : Nat} (hk : 0 < k) (a lo hi : Int) (K : Bool → Option R) : f41 k a lo hi K = K (inB a lo hi) := by
  rw [f41_def]
  obtain ⟨k, rfl⟩ := succ_of hk
  simp only [f41d, inB, ge_iff_le]
  cases decide (lo ≤ a) <;> rfl
def chkSizes (b p s : Int) : Int := if inB b 1 64 = false then 1 else if inB p 1 64 = false then 1 else if inB s 64 1024 = false then 1 else if b * p * s > 262144 then 2 else 0
theorem prod_bounds {b p s : Int} (hb : 1 ≤ b ∧ b ≤ 64) (hp : 1 ≤ p ∧ p ≤ 64) (hs : 64 ≤ s ∧ s ≤ 1024) : 1 ≤ b * p ∧ b * p ≤ 4096 ∧ 64 ≤ b * p * s ∧ b * p * s ≤ 4194304 := by
  have h1 : b * p ≤ 64 * 64 := Int.mul_le_mul hb.2 hp.2 (by omega) (by omega)
  have h2 : 1 * 1 ≤ b * p := Int.mul_le_mul hb.1 hp.1 (by omega) (by omega)
  have h3 : b * p * s ≤ 4096 * 1024 := Int.mul_le_mul (by omega) hs.2 (by omega) (by omega)
  have h4 : 1 * 64 ≤ b * p * s := Int.mul_le_mul (by omega) hs.1 (by omega) (by omega)
  omega
theorem sizes_wrap {b p s : Int} (hb : inB b 1 64 = true) (hp : inB p 1 64 = true) (hs : inB s 64 1024 = true) : IntKind.i64.wrap (IntKind.i64.wrap (b * p) * s) = b * p * s := by
  obtain ⟨h1, h2, h3, h4⟩ := prod_bounds (inB_iff.1 hb) (inB_iff.1 hp) (inB_iff.1 hs)
  rw [wi (n := b * p) (by omega) (by omega), wi (by omega) (by omega)]
theorem sizes_ok {b p s : Int} (h : chkSizes b p s = 0) : (1 ≤ b ∧ b ≤ 64) ∧ (1 ≤ p ∧ p ≤ 64) ∧ (64 ≤ s ∧ s ≤ 1024) ∧ b * p * s ≤ 262144 ∧ 64 ≤ b * p * s ∧ IntKind.i64.wrap (IntKind.i64.wrap (b * p) * s) = b * p * s := by
  unfold chkSizes at h
  cases hb : inB b 1 64
  · simp [hb] at h
  · cases hp : inB p 1 64
    · simp [hb, hp] at h
    · cases hs : inB s 64 1024
      · simp [hb, hp, hs] at h
      · have := prod_bounds (inB_iff.1 hb) (inB_iff.1 hp) (inB_iff.1 hs)
        by_cases hm : b * p * s > 262144
        · simp [hb, hp, hs, hm] at h
        · exact ⟨inB_iff.1 hb, inB_iff.1 hp, inB_iff.1 hs, by omega, by omega, sizes_wrap hb hp hs⟩

/-! the bad blocks -/
def badI (hi : Int) (l : List Int) : Nat → Nat → Int
  | 0, _ => 0
  | d + 1, i => if inB (l.getD i 0) 0 hi = false then 1 else if 0 < i ∧ l.getD i 0 ≤ l.getD (i - 1) 0 then 8 else badI hi l d (i + 1)
/-! the wear -/
def wearB (l : List Int) : Bool := l.all fun n => inB n 0 1000000
def chkFlash (b p s : Int) (d w x : List Int) : Int :=
  if chkSizes b p s ≠ 0 then chkSizes b p s else if (d.length : Int) ≠ b * p * s then 3 else if (w.length : Int) ≠ b then 3 else if wearB w = false then 1 else badI (b - 1) x x.length 0
def firstF : List Int → Int
  | [] => 0
  | x :: l => if x = 0 then firstF l else x
theorem f72_eq {k : Nat} (hk : 0 < k) (l : List Int) (hl : l.length ≤ 140737488355328) (K : List Int → Option R) : f72 k l K = K l := by
  rw [f72_def]
  obtain ⟨k, rfl⟩ := succ_of hk
  simp only [f72d, LIM1, hl, decide_true, cond_true]
/-! comparing -/
theorem f22_eq {k : Nat} (hk : 0 < k) (a b : List Int) (K : Bool → Option R) : f22 k a b K = K ((strOf a).toList == (strOf b).toList) := by
  rw [f22_def]
  obtain ⟨k, rfl⟩ := succ_of hk
  rfl
/-! the sum -/
noncomputable def bitS (s : Int) : Int := bif decide (s ≥ 32768) then bits .xor .i64 (Int.tmod (IntKind.i64.wrap (s * 2)) 65536) 4129 else Int.tmod (IntKind.i64.wrap (s * 2)) 65536
noncomputable def bitsS : Nat → Int → Int
  | 0, s => s
  | n + 1, s => bitsS n (bitS s)
noncomputable def sumS : List Int → Int → Int
  | [], s => s
  | c :: l, s => sumS l (bitsS 8 (bits .xor .i64 s (IntKind.i64.wrap (IntKind.i64.wrap c * 256))))
theorem eight1 (k : Nat) (x : Int → Option R) (a : List Int) (b c : Int) : ∀ (d f : Nat) (s : Int) (j : Nat), j + d = 8 → d < f → f50_2d k x a b c f s (j : Int) = x (bitsS d s)
  | d, 0, s, j, _, h => absurd h (Nat.not_lt_zero _)
  | 0, f + 1, s, j, hj, _ => by
    have h1 : decide ((j : Int) < 8) = false := by simp only [decide_eq_false_iff_not]; omega
    simp only [f50_2d, f50_2b, h1, cond_false, bitsS]
  | d + 1, f + 1, s, j, hj, hf => by
    have h1 : decide ((j : Int) < 8) = true := by simp only [decide_eq_true_eq]; omega
    have hw : IntKind.i64.wrap ((j : Int) + 1) = ((j + 1 : Nat) : Int) := by rw [wi (by omega) (by omega)]; omega
    simp only [f50_2d, f50_2b, h1, cond_true, hw, f50_1000011_def, f50_1000011d, bitsS, bitS]
    cases decide (s ≥ 32768) <;> exact eight1 k x a b c d f _ (j + 1) (by omega) (by omega)
theorem eight2 (k : Nat) (x : Int → Option R) (a : List Int) (b : Int) : ∀ (d f : Nat) (s : Int) (j : Nat), j + d = 8 → d < f → f51_2d k x a b f s (j : Int) = x (bitsS d s)
  | d, 0, s, j, _, h => absurd h (Nat.not_lt_zero _)
  | 0, f + 1, s, j, hj, _ => by
    have h1 : decide ((j : Int) < 8) = false := by simp only [decide_eq_false_iff_not]; omega
    simp only [f51_2d, f51_2b, h1, cond_false, bitsS]
  | d + 1, f + 1, s, j, hj, hf => by
    have h1 : decide ((j : Int) < 8) = true := by simp only [decide_eq_true_eq]; omega
    have hw : IntKind.i64.wrap ((j : Int) + 1) = ((j + 1 : Nat) : Int) := by rw [wi (by omega) (by omega)]; omega
    simp only [f51_2d, f51_2b, h1, cond_true, hw, f51_1000011_def, f51_1000011d, bitsS, bitS]
    cases decide (s ≥ 32768) <;> exact eight2 k x a b d f _ (j + 1) (by omega) (by omega)
theorem sum_loop1 (k : Nat) (hk : 8 < k) (x : Int → Option R) (l : List Int) (hl : l.length < 4611686018427387904) : ∀ (d f i : Nat) (s : Int), i + d = l.length → d < f → f50_0d k x l (l.length : Int) f s (i : Int) = x (sumS (l.drop i) s)
  | d, 0, i, s, _, h => absurd h (Nat.not_lt_zero _)
  | 0, f + 1, i, s, hi, _ => by
    have h1 : decide ((i : Int) < (l.length : Int)) = false := by simp only [decide_eq_false_iff_not]; omega
    simp only [f50_0d, f50_0b, h1, cond_false]
    rw [List.drop_of_length_le (by omega)]
    rfl
  | d + 1, f + 1, i, s, hi, hf => by
    have h1 : decide ((i : Int) < (l.length : Int)) = true := by simp only [decide_eq_true_eq]; omega
    have h0 : decide ((0 : Int) ≤ (i : Int)) = true := by simp
    have hw : IntKind.i64.wrap ((i : Int) + 1) = ((i + 1 : Nat) : Int) := by rw [wi (by omega) (by omega)]; omega
    have hli : i < l.length := by omega
    simp only [f50_0d, f50_0b, h1, h0, cond_true, Bool.and_self, Int.toNat_natCast, hw, getD_in hli, f50_2_def]
    refine (eight1 k _ _ _ _ 8 k _ 0 (by omega) (by omega)).trans ?_
    rw [List.drop_eq_getElem_cons hli]
    exact sum_loop1 k hk x l hl d f (i + 1) _ (by omega) (by omega)
theorem sum_loop2 (k : Nat) (hk : 8 < k) (x : Int → Option R) (l : List Int) (hl : l.length < 4611686018427387904) : ∀ (d f i : Nat) (s : Int), i + d = l.length → d < f → f51_0d k x l f s (i : Int) = x (sumS (l.drop i) s)
  | d, 0, i, s, _, h => absurd h (Nat.not_lt_zero _)
  | 0, f + 1, i, s, hi, _ => by
    have h1 : decide ((i : Int) < (l.length : Int)) = false := by simp only [decide_eq_false_iff_not]; omega
    simp only [f51_0d, f51_0b, h1, cond_false]
    rw [List.drop_of_length_le (by omega)]
    rfl
  | d + 1, f + 1, i, s, hi, hf => by
    have h1 : decide ((i : Int) < (l.length : Int)) = true := by simp only [decide_eq_true_eq]; omega
    have h0 : decide ((0 : Int) ≤ (i : Int)) = true := by simp
    have hw : IntKind.i64.wrap ((i : Int) + 1) = ((i + 1 : Nat) : Int) := by rw [wi (by omega) (by omega)]; omega
    have hli : i < l.length := by omega
    simp only [f51_0d, f51_0b, h1, h0, cond_true, Bool.and_self, Int.toNat_natCast, hw, getD_in hli, f51_2_def]
    refine (eight2 k _ _ _ 8 k _ 0 (by omega) (by omega)).trans ?_
    rw [List.drop_eq_getElem_cons hli]
    exact sum_loop2 k hk x l hl d f (i + 1) _ (by omega) (by omega)
theorem f50_eq {k : Nat} (l : List Int) (hk : l.length + 10 < k) (hl : l.length < 4611686018427387904) (K : Int → Option R) : f50 k l K = K (sumS l 65535) := by
  rw [f50_def]
  obtain ⟨k, rfl⟩ := succ_of (show 0 < k by omega)
  simp only [f50d, f50_0_def]
  exact (sum_loop1 k (by omega) _ l hl l.length k 0 65535 (by omega) (by omega)).trans (by simp)
theorem f51_eq {k : Nat} (l : List Int) (hk : l.length + 10 < k) (hl : l.length < 4611686018427387904) (K : Int → Option R) : f51 k l K = K (sumS l 65535) := by
  rw [f51_def]
  obtain ⟨k, rfl⟩ := succ_of (show 0 < k by omega)
  simp only [f51d, f51_0_def]
  exact (sum_loop2 k (by omega) _ l hl l.length k 0 65535 (by omega) (by omega)).trans (by simp)
noncomputable def sumF (l : List Int) : Int × Int := if l.length > 262144 then (0, 2) else (sumS l 65535, 0)
theorem f16_eq {k : Nat} (l : List Int) (hk : l.length + 12 < k) (hl : l.length < 4611686018427387904) (K : Int → Int → Option R) : f16 k l K = K (sumF l).1 (sumF l).2 := by
  rw [f16_def]
  obtain ⟨k, rfl⟩ := succ_of (show 0 < k by omega)
  simp only [f16d, f50_eq l (show _ < k by omega) hl, sumF]
  by_cases h : l.length > 262144
  · have : decide ((l.length : Int) > 262144) = true := by simp only [decide_eq_true_eq]; omega
    simp [h, this]
  · have : decide ((l.length : Int) > 262144) = false := by simp only [decide_eq_false_iff_not]; omega
    simp [h, this]
theorem sum_known : sumS [49, 50, 51, 52, 53, 54, 55, 56, 57] 65535 = 10673 := by decide +kernel
theorem f13_eq {k : Nat} (hk : 30 < k) (K : Bool → Option R) : f13 k K = K true := by
  rw [f13_def]
  obtain ⟨k, rfl⟩ := succ_of (show 0 < k by omega)
  simp only [f13d]
  rw [f16_eq _ (by simp; omega) (by simp)]
  simp [sumF, sum_known]
end Go.Proofs.Ytecnlienmpdlaaa.PM

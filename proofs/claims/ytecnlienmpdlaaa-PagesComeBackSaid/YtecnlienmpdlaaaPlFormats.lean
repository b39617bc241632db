/- Plain laws of flash memories: an erased one. -/
import Derived.Test.YtecnlienmpdlaaaPlFl
set_option linter.unusedSimpArgs false
set_option linter.unusedVariables false
namespace Go.Proofs.Ytecnlienmpdlaaa.PM
open Go Go.Proofs.Ytecnlienmpdlaaa.Bt
variable {R : Type}

theorem u64i {n : Int} (h0 : 0 ≤ n) (h1 : n < 18446744073709551616) : IntKind.u64.wrap n = n := wraps_u64 n h0 (by omega)
theorem low32 {n : Int} (h0 : 0 ≤ n) (h1 : n < 4294967296) : bits .and .u64 n 4294967295 = n := by
  have := bits_mask .u64 64 (by decide) wraps_u64 32 (by omega) n h0 (by omega)
  rw [show (4294967295 : Int) = 2 ^ 32 - 1 by decide, this]
  omega
theorem high32 {n : Int} (h0 : 0 ≤ n) (h1 : n < 4294967296) : Int.fdiv n (2 ^ 32) = 0 := by
  rw [Int.fdiv_eq_ediv_of_nonneg _ (by decide)]
  omega
theorem f62_one {k : Nat} (hk : 1 < k) {n : Int} (h0 : 0 ≤ n) (h1 : n < 4294967296) (K : Int → Int → Option R) : f62 k 1 n K = K 0 n := by
  rw [f62_def]
  obtain ⟨k, rfl⟩ := succ_of (show 0 < k by omega)
  simp only [f62d, f85_def]
  obtain ⟨k, rfl⟩ := succ_of (show 0 < k by omega)
  simp only [f85d, low32 h0 h1, high32 h0 h1, high32 (n := 1) (by decide) (by decide), low32 (n := 1) (by decide) (by decide)]
  simp only [Int.zero_mul, Int.mul_zero, Int.one_mul, u64i h0 (show n < 18446744073709551616 by omega), high32 h0 h1, u64i (n := 0) (by decide) (by decide), Int.add_zero, Int.zero_add, low32 (n := 0) (by decide) (by decide), high32 (n := 0) (by decide) (by decide)]
theorem rep_loop (k : Nat) (x0 : List Int → Option R) (N : Nat) (hN : N ≤ 4000000) : ∀ (d f n : Nat), n + d = N → 1 ≤ n → d < f →
    f47_0d k x0 f (n : Int) (List.replicate n 255 ++ List.replicate d 0) = x0 (List.replicate N 255)
  | d, 0, n, _, _, h => absurd h (Nat.not_lt_zero _)
  | 0, f + 1, n, hn, _, _ => by
    have h1 : decide ((n : Int) < ((List.replicate n (255 : Int) ++ List.replicate 0 0).length : Int)) = false := by simp
    simp only [f47_0d, f47_0b, h1, cond_false]
    rw [List.replicate_zero, List.append_nil]
    congr 2
  | d + 1, f + 1, n, hn, h1n, hf => by
    have hlen : (List.replicate n (255 : Int) ++ List.replicate (d + 1) 0).length = N := by simp; omega
    have h1 : decide ((n : Int) < (N : Int)) = true := by simp only [decide_eq_true_eq]; omega
    have h2 : decide ((n : Int) ≤ (N : Int)) = true := by simp only [decide_eq_true_eq]; omega
    have h0 : decide ((0 : Int) ≤ (n : Int)) = true := by simp
    have ht : ((List.replicate n (255 : Int) ++ List.replicate (d + 1) 0).drop 0).take n = List.replicate n 255 := by
      rw [List.drop_zero]
      exact List.take_left' (by simp)
    have hc : min n (N - n) = min n (d + 1) := by omega
    simp only [f47_0d, f47_0b, hlen, h1, h2, h0, cond_true, Bool.and_self, Int.toNat_natCast, ht, List.length_replicate, hc]
    obtain ⟨c, ec⟩ : ∃ c, min n (d + 1) = c := ⟨_, rfl⟩
    rw [ec]
    have hc1 : 1 ≤ c := by omega
    have hcn : c ≤ n := by omega
    have hcd : c ≤ d + 1 := by omega
    have hw : IntKind.i64.wrap ((n : Int) + ((c : Nat) : Int)) = ((n + c : Nat) : Int) := by rw [wi (by omega) (by omega)]; omega
    have hs : splice (List.replicate n (255 : Int) ++ List.replicate (d + 1) 0) n ((List.replicate n (255 : Int)).take c) = List.replicate (n + c) 255 ++ List.replicate (d + 1 - c) 0 := by
      unfold splice
      have e1 : (List.replicate n (255 : Int) ++ List.replicate (d + 1) 0).take n = List.replicate n 255 := List.take_left' (by simp)
      have e2 : (List.replicate n (255 : Int)).take c = List.replicate c 255 := by rw [List.take_replicate]; congr 1; omega
      have e3 : (List.replicate n (255 : Int) ++ List.replicate (d + 1) 0).drop (n + (List.replicate c (255 : Int)).length) = List.replicate (d + 1 - c) 0 := by
        rw [List.length_replicate, ← List.drop_drop, List.drop_left' (by simp), List.drop_replicate]
      rw [e2, e1, e3]
      simp
    rw [hw, hs]
    exact rep_loop k x0 N hN (d + 1 - c) f (n + c) (by omega) (by omega) (by omega)
theorem f47_eq {k : Nat} {n : Nat} (hk : n + 10 < k) (hn : n ≤ 4000000) (K : List Int → Option R) : f47 k [255] (n : Int) K = K (List.replicate n 255) := by
  rw [f47_def]
  obtain ⟨k, rfl⟩ := succ_of (show 0 < k by omega)
  have e0 : decide ((n : Int) < 0) = false := by simp only [decide_eq_false_iff_not]; omega
  have e1 : IntKind.u64.wrap ((([255] : List Int).length : Int)) = 1 := by simp [IntKind.wrap, IntKind.bits, IntKind.signed]
  have e2 : IntKind.u64.wrap (n : Int) = (n : Int) := u64i (by omega) (by omega)
  have e3 : decide ((n : Int) > 9223372036854775807) = false := by simp only [decide_eq_false_iff_not]; omega
  have e4 : IntKind.i64.wrap (n : Int) = (n : Int) := wi (by omega) (by omega)
  have e5 : decide ((0 : Int) ≤ (n : Int)) = true := by simp
  have e6 : decide ((n : Int) ≤ (LIM 1 : Int)) = true := by rw [LIM1]; simp only [decide_eq_true_eq]; omega
  have e7 : decide ((n : Int) ≤ (n : Int)) = true := by simp
  simp only [f47d, f47_1000002_def, f47_1000002d, f47_1000005_def, f47_1000005d, e0, e1, e2, cond_false, f62_one (show 1 < k by omega) (show (0 : Int) ≤ (n : Int) by omega) (show (n : Int) < 4294967296 by omega), show decide ((0 : Int) > 0) = false by decide, BEq.rfl, cond_true, e3, e4, e5, e6, e7, Bool.and_self, Int.toNat_natCast, List.length_replicate, f47_0_def]
  cases n with
  | zero =>
    obtain ⟨k, rfl⟩ := succ_of (show 0 < k by omega)
    have hm : min ([255] : List Int).length 0 = 0 := by simp
    have hs : splice (List.replicate 0 (0 : Int)) 0 (([255] : List Int).take 0) = [] := by simp [splice]
    simp only [hm, hs, f47_0d, f47_0b]
    simp
  | succ m =>
    have hm : min ([255] : List Int).length (m + 1) = 1 := by simp
    have hs : splice (List.replicate (m + 1) (0 : Int)) 0 (([255] : List Int).take 1) = List.replicate 1 255 ++ List.replicate m 0 := by
      simp [splice]
    rw [hm, hs]
    exact rep_loop k (fun y0_0_0 => K y0_0_0) (m + 1) hn m k 1 (by omega) (by omega) (by omega)
theorem fill_loop (k : Nat) (x0 : List Int → Option R) (N : Nat) (hN : N ≤ 4000000) : ∀ (d f n : Nat), n + d = N → d < f →
    f49_0d k x0 (N : Int) f (n : Int) (List.replicate n 255 ++ List.replicate d 0) = x0 (List.replicate N 255)
  | d, 0, n, _, h => absurd h (Nat.not_lt_zero _)
  | 0, f + 1, n, hn, _ => by
    have h1 : decide ((n : Int) < (N : Int)) = false := by simp only [decide_eq_false_iff_not]; omega
    simp only [f49_0d, f49_0b, h1, cond_false]
    rw [List.replicate_zero, List.append_nil]
    congr 2
  | d + 1, f + 1, n, hn, hf => by
    have hlen : (List.replicate n (255 : Int) ++ List.replicate (d + 1) 0).length = N := by simp; omega
    have h1 : decide ((n : Int) < (N : Int)) = true := by simp only [decide_eq_true_eq]; omega
    have h0 : decide ((0 : Int) ≤ (n : Int)) = true := by simp
    have hw : IntKind.i64.wrap ((n : Int) + 1) = ((n + 1 : Nat) : Int) := by rw [wi (by omega) (by omega)]; omega
    have hs : (List.replicate n (255 : Int) ++ List.replicate (d + 1) 0).set n 255 = List.replicate (n + 1) 255 ++ List.replicate d 0 := by
      rw [List.set_append, if_neg (by simp), List.length_replicate, Nat.sub_self, List.replicate_succ (n := d), List.set_cons_zero, List.replicate_succ' (n := n)]
      simp
    simp only [f49_0d, f49_0b, hlen, h1, h0, cond_true, Bool.and_self, Int.toNat_natCast, hw, hs]
    exact fill_loop k x0 N hN d f (n + 1) (by omega) (by omega)
theorem f49_eq {k : Nat} {n : Nat} (hk : n + 10 < k) (hn : n ≤ 4000000) (K : List Int → Option R) : f49 k (n : Int) K = K (List.replicate n 255) := by
  rw [f49_def]
  obtain ⟨k, rfl⟩ := succ_of (show 0 < k by omega)
  have e5 : decide ((0 : Int) ≤ (n : Int)) = true := by simp
  have e6 : decide ((n : Int) ≤ (LIM 1 : Int)) = true := by rw [LIM1]; simp only [decide_eq_true_eq]; omega
  have e7 : decide ((n : Int) ≤ (n : Int)) = true := by simp
  simp only [f49d, e5, e6, e7, Bool.and_self, cond_true, Int.toNat_natCast, f49_0_def]
  have := fill_loop k (fun y0_0_0 => K y0_0_0) n hn n k 0 (by omega) (by omega)
  rw [List.replicate_zero, List.nil_append] at this
  exact this
def fmtErr (b p s : Int) (x : List Int) : Int := if chkSizes b p s ≠ 0 then chkSizes b p s else badI (b - 1) x x.length 0
end Go.Proofs.Ytecnlienmpdlaaa.PM

/- Plain laws of commands: what the board does. -/
import Derived.Test.YtadkplikobhckaaPlBytes
set_option linter.unusedSimpArgs false
set_option linter.unusedVariables false
namespace Go.Proofs.Ytadkplikobhckaa.PM
open Go Go.Proofs.Ytadkplikobhckaa.Bt
variable {R : Type}

theorem wi {n : Int} (h0 : -9223372036854775808 ≤ n) (h1 : n < 9223372036854775808) : IntKind.i64.wrap n = n := by rw [IntKind.wrap_i64]; omega
theorem tmod_nn {a b : Int} (h : 0 ≤ a) : Int.tmod a b = a % b := Int.tmod_eq_emod_of_nonneg h
theorem tdiv_nn {a b : Int} (h : 0 ≤ a) : Int.tdiv a b = a / b := Int.tdiv_eq_ediv_of_nonneg h
theorem tmod_256 (x : Int) : x % 256 - 256 ≤ Int.tmod x 256 ∧ Int.tmod x 256 ≤ x % 256 ∧ Int.tmod x 256 % 256 = x % 256 := by
  have h : Int.tmod x 256 = x % 256 - ((if 0 ≤ x ∨ (256 : Int) ∣ x then 0 else 256 : Nat) : Int) := Int.tmod_eq_emod
  split at h <;> omega

structure Bd where
  n : Int
  w : Int
  L : Bool
  Rt : Bool
  W : Bool
  t : Int
def zB : Bd := ⟨0, 0, false, false, false, 0⟩
def chkBoard (b : Bd) : Int := if inB b.n 0 255 && decide (Int.tmod b.w 2 = 0) && inB b.w 2 254 && inB b.t 0 1000000 then 0 else 1
theorem f29_eq {k : Nat} (hk : 1 < k) (b : Bd) (K : Int → Option R) : f29 k b.n b.w b.L b.Rt b.W b.t K = K (chkBoard b) := by
  rw [f29_def]
  obtain ⟨k, rfl⟩ := succ_of hk
  simp only [f29d, f62_eq (show 0 < k by omega), bne_dec, chkBoard]
  cases inB b.n 0 255 <;> cases decide (Int.tmod b.w 2 = 0) <;> cases inB b.w 2 254 <;> cases inB b.t 0 1000000 <;> simp
theorem f30_eq {k : Nat} (hk : 1 < k) (b : Bd) (K : Int → Option R) : f30 k b.n b.w b.L b.Rt b.W b.t K = K (chkBoard b) := by
  rw [f30_def]
  obtain ⟨k, rfl⟩ := succ_of hk
  simp only [f30d, f63_eq (show 0 < k by omega), bne_dec, chkBoard]
  cases inB b.n 0 255 <;> cases decide (Int.tmod b.w 2 = 0) <;> cases inB b.w 2 254 <;> cases inB b.t 0 1000000 <;> simp
theorem chkBoard_ok {b : Bd} (h : chkBoard b = 0) : (0 ≤ b.n ∧ b.n ≤ 255) ∧ (2 ≤ b.w ∧ b.w ≤ 254 ∧ b.w % 2 = 0) ∧ (0 ≤ b.t ∧ b.t ≤ 1000000) := by
  unfold chkBoard at h
  split at h
  · rename_i h'
    simp only [Bool.and_eq_true, decide_eq_true_eq, inB_iff] at h'
    obtain ⟨⟨⟨h1, h2⟩, h3⟩, h4⟩ := h'
    rw [tmod_nn (by omega)] at h2
    exact ⟨h1, ⟨h3.1, h3.2, h2⟩, h4⟩
  · cases h

/-! kit.First -/
def firstF : List Int → Int
  | [] => 0
  | x :: l => if x = 0 then firstF l else x
theorem first_loop (k : Nat) (K : Int → Option R) (l : List Int) (hl : l.length < 4611686018427387904) : ∀ (d f i : Nat), i + d = l.length → d < f →
    f65_0d k K (K 0) l (l.length : Int) f (i : Int) = K (firstF (l.drop i))
  | d, 0, i, _, h => absurd h (Nat.not_lt_zero _)
  | 0, f + 1, i, hi, _ => by
    have h1 : decide ((i : Int) < (l.length : Int)) = false := by simp only [decide_eq_false_iff_not]; omega
    simp only [f65_0d, f65_0b, h1, cond_false]
    rw [List.drop_of_length_le (by omega)]
    rfl
  | d + 1, f + 1, i, hi, hf => by
    have h1 : decide ((i : Int) < (l.length : Int)) = true := by simp only [decide_eq_true_eq]; omega
    have h0 : decide ((0 : Int) ≤ (i : Int)) = true := by simp
    have hw : IntKind.i64.wrap ((i : Int) + 1) = ((i + 1 : Nat) : Int) := by rw [wraps_i64 _ (by omega) (by omega)]; omega
    have hli : i < l.length := by omega
    simp only [f65_0d, f65_0b, h1, h0, cond_true, Bool.and_self, Int.toNat_natCast, hw]
    have g1 : l.getD i 0 = l[i] := by rw [List.getD_eq_getElem?_getD, List.getElem?_eq_getElem hli]; rfl
    rw [g1, List.drop_eq_getElem_cons hli, bne_dec]
    by_cases e : l[i] = 0
    · simp only [e, decide_true, Bool.not_true, cond_false, firstF, if_true]
      exact first_loop k K l hl d f (i + 1) (by omega) (by omega)
    · simp only [e, decide_false, Bool.not_false, cond_true, firstF, if_false]
theorem f65_eq {k : Nat} {l : List Int} (hk : l.length + 1 < k) (hl : l.length < 4611686018427387904) (K : Int → Option R) : f65 k l K = K (firstF l) := by
  rw [f65_def]
  obtain ⟨k, rfl⟩ := succ_of hk
  simp only [f65d, f65_0_def]
  exact (first_loop k K l hl l.length k 0 (by omega) (by omega)).trans (by simp)

/-! a command with a number -/
theorem f92_eq {k : Nat} (hk : 0 < k) {a b : Int} (ha : 0 ≤ a ∧ a ≤ 255) (hb : 0 ≤ b ∧ b ≤ 255) (K : Int → Option R) : f92 k a b K = K ((a - b) % 256) := by
  rw [f92_def]
  obtain ⟨k, rfl⟩ := succ_of hk
  obtain ⟨h1, h2, h3⟩ := tmod_256 (a - b)
  simp only [f92d]
  rw [wi (n := a - b) (by omega) (by omega), wi (by omega) (by omega), tmod_nn (by omega)]
  congr 1
  omega
theorem f94_eq {k : Nat} (hk : 0 < k) {a b : Int} (ha : 0 ≤ a ∧ a ≤ 255) (hb : 0 ≤ b ∧ b ≤ 255) (K : Int → Option R) : f94 k a b K = K ((a - b) % 256) := by
  rw [f94_def]
  obtain ⟨k, rfl⟩ := succ_of hk
  simp only [f94d]
  rw [wi (n := a - b) (by omega) (by omega), wi (by omega) (by omega), tmod_nn (by omega)]
  congr 1
  omega
def plainS (b : Bd) (num : Int) : Bd × Int :=
  if b.L then (b, 5) else if num = b.n then (if b.W then ({ b with Rt := true }, 6) else ({ b with n := (b.n + 1) % 256, Rt := false, t := b.t + 1 }, 1))
  else if (num - b.n) % 256 < b.w / 2 then ({ b with Rt := true }, 2) else if (b.n - num) % 256 ≤ b.w / 2 then (b, 3) else ({ b with L := true }, 4)
def takeS (b : Bd) (kind num : Int) : Bd × Int :=
  if kind = 1 then plainS b num else if kind = 2 then ({ b with t := b.t + 1 }, 1) else if kind = 3 then ({ b with L := false, Rt := false, W := false }, 7)
  else if kind = 4 then (if b.L then (b, 5) else ({ b with n := num, Rt := false }, 7)) else ({ b with W := true }, 7)
def ap7 (K : Int → Int → Bool → Bool → Bool → Int → Int → Option R) (x : Bd × Int) : Option R := K x.1.n x.1.w x.1.L x.1.Rt x.1.W x.1.t x.2
def ap8 (K : Int → Int → Bool → Bool → Bool → Int → Int → Int → Option R) (x : Bd × Int) (f : Int) : Option R := K x.1.n x.1.w x.1.L x.1.Rt x.1.W x.1.t x.2 f
theorem f66_eq {k : Nat} (hk : 1 < k) {b : Bd} (hb : chkBoard b = 0) {num : Int} (hn : 0 ≤ num ∧ num ≤ 255) (K : Int → Int → Bool → Bool → Bool → Int → Int → Option R) :
    f66 k b.n b.w b.L b.Rt b.W b.t num K = ap7 K (plainS b num) := by
  obtain ⟨h1, h2, h3⟩ := chkBoard_ok hb
  rw [f66_def]
  obtain ⟨k, rfl⟩ := succ_of hk
  simp only [f66d, f92_eq (show 0 < k by omega) hn h1, f92_eq (show 0 < k by omega) h1 hn, beq_dec, plainS]
  rw [wi (n := b.n + 1) (by omega) (by omega), wi (n := b.t + 1) (by omega) (by omega), tmod_nn (by omega), tdiv_nn (by omega), wi (n := b.w / 2) (by omega) (by omega)]
  cases hL : b.L
  · by_cases e : num = b.n
    · cases hW : b.W <;> simp [e, ap7, hL, hW]
    · by_cases e1 : (num - b.n) % 256 < b.w / 2
      · simp [e, e1, ap7, hL]
      · by_cases e2 : (b.n - num) % 256 ≤ b.w / 2 <;> simp [e, e1, e2, ap7, hL]
  · simp [ap7, hL]
theorem f93_eq {k : Nat} (hk : 1 < k) {b : Bd} (hb : chkBoard b = 0) {kind num : Int} {l : List Int} (hn : 0 ≤ num ∧ num ≤ 255) (K : Int → Int → Bool → Bool → Bool → Int → Int → Option R) :
    f93 k b.n b.w b.L b.Rt b.W b.t kind num l K = ap7 K (plainS b num) := by
  obtain ⟨h1, h2, h3⟩ := chkBoard_ok hb
  rw [f93_def]
  obtain ⟨k, rfl⟩ := succ_of hk
  simp only [f93d, f94_eq (show 0 < k by omega) hn h1, f94_eq (show 0 < k by omega) h1 hn, beq_dec, plainS]
  rw [wi (n := b.n + 1) (by omega) (by omega), wi (n := b.t + 1) (by omega) (by omega), tmod_nn (by omega), tdiv_nn (by omega), wi (n := b.w / 2) (by omega) (by omega)]
  have he : (num - b.n) % 256 = 0 ↔ num = b.n := by omega
  cases hL : b.L
  · by_cases e : num = b.n
    · have e' := he.2 e
      cases hW : b.W <;> simp [e, e', ap7, hL, hW]
    · have e' : ¬ (num - b.n) % 256 = 0 := fun h => e (he.1 h)
      by_cases e1 : (num - b.n) % 256 < b.w / 2
      · simp [e, e', e1, ap7, hL]
      · by_cases e2 : (b.n - num) % 256 ≤ b.w / 2 <;> simp [e, e', e1, e2, ap7, hL]
  · simp [ap7, hL]
/-- What a board becomes, what became of the order, and what is wrong. -/
def takeF (b : Bd) (kind num : Int) (n : Nat) : (Bd × Int) × Int :=
  if chkBoard b ≠ 0 then ((zB, 0), chkBoard b) else if chkOrder kind num n ≠ 0 then ((zB, 0), chkOrder kind num n)
  else if (takeS b kind num).1.t > 1000000 then ((zB, 0), 16) else (takeS b kind num, 0)
theorem f27_eq {k : Nat} (hk : 5 < k) (b : Bd) (kind num : Int) (l : List Int) (K : Int → Int → Bool → Bool → Bool → Int → Int → Int → Option R) :
    f27 k b.n b.w b.L b.Rt b.W b.t kind num l K = ap8 K (takeF b kind num l.length).1 (takeF b kind num l.length).2 := by
  rw [f27_def]
  obtain ⟨k, rfl⟩ := succ_of hk
  simp only [f27d, f29_eq (show 1 < k by omega), f60_eq (show 1 < k by omega), takeF]
  rw [f65_eq (by simp; omega) (by simp)]
  simp only [firstF, bne_dec, f27_1000008_def, f27_1000010_def, f27_1000013_def, f27_1000015_def, f27_1000016_def, f27_1000008d, f27_1000010d, f27_1000013d, f27_1000015d, f27_1000016d]
  by_cases hb : chkBoard b = 0
  · by_cases ho : chkOrder kind num l.length = 0
    · obtain ⟨h1, h2, h3⟩ := chkBoard_ok hb
      obtain ⟨g1, g2⟩ := chkOrder_ok ho
      simp only [hb, ho, if_true, decide_true, Bool.not_true, cond_false, beq_dec, f66_eq (show 1 < k by omega) hb g2, ap7, ne_eq, not_true_eq_false, if_false, takeS]
      by_cases k1 : kind = 1
      · subst k1
        simp only [decide_true, cond_true, if_true]
        by_cases ht : (plainS b num).1.t > 1000000 <;> simp [ht, ap8, zB]
      · by_cases k2 : kind = 2
        · subst k2
          rw [wi (n := b.t + 1) (by omega) (by omega)]
          by_cases ht : b.t + 1 > 1000000 <;> simp [ht, ap8, zB]
        · have ht : ¬ b.t > 1000000 := by omega
          by_cases k3 : kind = 3
          · subst k3; simp [ht, ap8]
          · by_cases k4 : kind = 4
            · subst k4
              by_cases hL : b.L = true <;> simp [ht, ap8, hL, zB]
            · simp [k1, k2, k3, k4, ht, ap8]
    · simp [hb, ho, ap8, zB]
  · simp [hb, ap8, zB]
theorem f67_eq {k : Nat} (hk : 3 < k) {b : Bd} (hb : chkBoard b = 0) {kind num : Int} {l : List Int} (ho : chkOrder kind num l.length = 0) (K : Int → Int → Bool → Bool → Bool → Int → Int → Option R) :
    f67 k b.n b.w b.L b.Rt b.W b.t kind num l K = ap7 K (takeS b kind num) := by
  obtain ⟨h1, h2, h3⟩ := chkBoard_ok hb
  obtain ⟨g1, g2⟩ := chkOrder_ok ho
  rw [f67_def]
  obtain ⟨k, rfl⟩ := succ_of hk
  simp only [f67d, f93_eq (show 1 < k by omega) hb g2, f67_1000008_def, f67_1000010_def, f67_1000014_def, f67_1000008d, f67_1000010d, f67_1000014d, takeS, ap7, beq_dec]
  rw [wi (n := b.t + 1) (by omega) (by omega)]
  by_cases k1 : kind = 1
  · subst k1; simp
  · by_cases k2 : kind = 2
    · subst k2; simp
    · by_cases k3 : kind = 3
      · subst k3; simp
      · by_cases k4 : kind = 4
        · subst k4
          cases hL : b.L <;> simp [hL]
        · have k5 : kind = 5 := by omega
          subst k5; simp
theorem f28_eq {k : Nat} (hk : 5 < k) (b : Bd) (kind num : Int) (l : List Int) (K : Int → Int → Bool → Bool → Bool → Int → Int → Int → Option R) :
    f28 k b.n b.w b.L b.Rt b.W b.t kind num l K = ap8 K (takeF b kind num l.length).1 (takeF b kind num l.length).2 := by
  rw [f28_def]
  obtain ⟨k, rfl⟩ := succ_of hk
  simp only [f28d, f30_eq (show 1 < k by omega), f61_eq (show 1 < k by omega), takeF, bne_dec]
  by_cases hb : chkBoard b = 0
  · by_cases ho : chkOrder kind num l.length = 0
    · simp only [hb, ho, decide_true, Bool.not_true, cond_false, f67_eq (show 3 < k by omega) hb ho, ap7, ne_eq, not_true_eq_false, if_false]
      by_cases ht : (takeS b kind num).1.t > 1000000 <;> simp [ht, ap8, zB]
    · simp [hb, ho, ap8, zB]
  · simp [hb, ap8, zB]
/-! what the board tells -/
def repF (b : Bd) : Int × Bool × Bool × Bool × Int := if chkBoard b ≠ 0 then (0, false, false, false, chkBoard b) else (b.n, b.L, b.Rt, b.W, 0)
theorem f68_eq {k : Nat} (hk : 0 < k) (b : Bd) (K : Int → Bool → Bool → Bool → Option R) : f68 k b.n b.w b.L b.Rt b.W b.t K = K b.n b.L b.Rt b.W := by
  rw [f68_def]
  obtain ⟨k, rfl⟩ := succ_of hk
  rfl
theorem f69_eq {k : Nat} (hk : 0 < k) (b : Bd) (K : Int → Bool → Bool → Bool → Option R) : f69 k b.n b.w b.L b.Rt b.W b.t K = K b.n b.L b.Rt b.W := by
  rw [f69_def]
  obtain ⟨k, rfl⟩ := succ_of hk
  rfl
theorem f31_eq {k : Nat} (hk : 2 < k) (b : Bd) (K : Int → Bool → Bool → Bool → Int → Option R) : f31 k b.n b.w b.L b.Rt b.W b.t K = K (repF b).1 (repF b).2.1 (repF b).2.2.1 (repF b).2.2.2.1 (repF b).2.2.2.2 := by
  rw [f31_def]
  obtain ⟨k, rfl⟩ := succ_of hk
  simp only [f31d, f29_eq (show 1 < k by omega), f68_eq (show 0 < k by omega), bne_dec, repF]
  by_cases hb : chkBoard b = 0 <;> simp [hb]
theorem f32_eq {k : Nat} (hk : 2 < k) (b : Bd) (K : Int → Bool → Bool → Bool → Int → Option R) : f32 k b.n b.w b.L b.Rt b.W b.t K = K (repF b).1 (repF b).2.1 (repF b).2.2.1 (repF b).2.2.2.1 (repF b).2.2.2.2 := by
  rw [f32_def]
  obtain ⟨k, rfl⟩ := succ_of hk
  simp only [f32d, f30_eq (show 1 < k by omega), f69_eq (show 0 < k by omega), bne_dec, repF]
  by_cases hb : chkBoard b = 0 <;> simp [hb]
theorem f6_eq {k : Nat} (hk : 20 < k) (b : Bd) (kind num : Int) (l : List Int) (K : Bool → Option R) : f6 k b.n b.w b.L b.Rt b.W b.t kind num l K = K true := by
  rw [f6_def]
  obtain ⟨k, rfl⟩ := succ_of hk
  simp only [f6d, f27_eq (show 5 < k by omega), f28_eq (show 5 < k by omega), ap8, f29_eq (show 1 < k by omega), f30_eq (show 1 < k by omega), f31_eq (show 2 < k by omega), f32_eq (show 2 < k by omega), f21_eq (show 6 < k by omega)]
  simp
end Go.Proofs.Ytadkplikobhckaa.PM

/- Plain laws of commands: what the board does. -/
import Derived.Test.YtadkplikobhckaaPlBytes
set_option linter.unusedSimpArgs false
set_option linter.unusedVariables false
namespace Go.Proofs.Ytadkplikobhckaa.PM
open Go Go.Proofs.Ytadkplikobhckaa.Bt
variable {R : Type}

theorem wi {n : Int} (h0 : -9223372036854775808 ≤ n) (h1 : n < 9223372036854775808) : IntKind.i64.wrap n = n := by rw [IntKind.wrap_i64]; omega
theorem tmod_nn {a b : Int} (h : 0 ≤ a) : Int.tmod a b = a % b := Int.tmod_eq_emod_of_nonneg h
theorem tdiv_nn {a b : Int} (h : 0 ≤ a) : Int.tdiv a b = a / b := Int.tdiv_eq_ediv_of_nonneg h
theorem tmod_256 (x : Int) : x % 256 - 256 ≤ Int.tmod x 256 ∧ Int.tmod x 256 ≤ x % 256 ∧ Int.tmod x 256 % 256 = x % 256 := by
  have h : Int.tmod x 256 = x % 256 - ((if 0 ≤ x ∨ (256 : Int) ∣ x then 0 else 256 : Nat) : Int) := Int.tmod_eq_emod
  split at h <;> omega

structure Bd where
  n : Int
  w : Int
  L : Bool
  Rt : Bool
  W : Bool
  t : Int
def zB : Bd := ⟨0, 0, false, false, false, 0⟩
def chkBoard (b : Bd) : Int := if inB b.n 0 255 && decide (Int.tmod b.w 2 = 0) && inB b.w 2 254 && inB b.t 0 1000000 then 0 else 1
theorem chkBoard_ok {b : Bd} (h : chkBoard b = 0) : (0 ≤ b.n ∧ b.n ≤ 255) ∧ (2 ≤ b.w ∧ b.w ≤ 254 ∧ b.w % 2 = 0) ∧ (0 ≤ b.t ∧ b.t ≤ 1000000) := by
  unfold chkBoard at h
  split at h
  · rename_i h'
    simp only [Bool.and_eq_true, decide_eq_true_eq, inB_iff] at h'
    obtain ⟨⟨⟨h1, h2⟩, h3⟩, h4⟩ := h'
    rw [tmod_nn (by omega)] at h2
    exact ⟨h1, ⟨h3.1, h3.2, h2⟩, h4⟩
  · cases h

/-! kit.First -/
def firstF : List Int → Int
  | [] => 0
  | x :: l => if x = 0 then firstF l else x
theorem first_loop (k : Nat) (K : Int → Option R) (l : List Int) (hl : l.length < 4611686018427387904) : ∀ (d f i : Nat), i + d = l.length → d < f →
    f65_0d k K (K 0) l (l.length : Int) f (i : Int) = K (firstF (l.drop i))
  | d, 0, i, _, h => absurd h (Nat.not_lt_zero _)
  | 0, f + 1, i, hi, _ => by
    have h1 : decide ((i : Int) < (l.length : Int)) = false := by simp only [decide_eq_false_iff_not]; omega
    simp only [f65_0d, f65_0b, h1, cond_false]
    rw [List.drop_of_length_le (by omega)]
    rfl
  | d + 1, f + 1, i, hi, hf => by
    have h1 : decide ((i : Int) < (l.length : Int)) = true := by simp only [decide_eq_true_eq]; omega
    have h0 : decide ((0 : Int) ≤ (i : Int)) = true := by simp
    have hw : IntKind.i64.wrap ((i : Int) + 1) = ((i + 1 : Nat) : Int) := by rw [wraps_i64 _ (by omega) (by omega)]; omega
    have hli : i < l.length := by omega
    simp only [f65_0d, f65_0b, h1, h0, cond_true, Bool.and_self, Int.toNat_natCast, hw]
    have g1 : l.getD i 0 = l[i] := by rw [List.getD_eq_getElem?_getD, List.getElem?_eq_getElem hli]; rfl
    rw [g1, List.drop_eq_getElem_cons hli, bne_dec]
    by_cases e : l[i] = 0
    · simp only [e, decide_true, Bool.not_true, cond_false, firstF, if_true]
      exact first_loop k K l hl d f (i + 1) (by omega) (by omega)
    · simp only [e, decide_false, Bool.not_false, cond_true, firstF, if_false]
theorem f65_eq {k : Nat} {l : List Int} (hk : l.length + 1 < k) (hl : l.length < 4611686018427387904) (K : Int → Option R) : f65 k l K = K (firstF l) := by
  rw [f65_def]
  obtain ⟨k, rfl⟩ := succ_of hk
  simp only [f65d, f65_0_def]
  exact (first_loop k K l hl l.length k 0 (by omega) (by omega)).trans (by simp)

/-! a command with a number -/
def plainS (b : Bd) (num : Int) : Bd × Int :=
  if b.L then (b, 5) else if num = b.n then (if b.W then ({ b with Rt := true }, 6) else ({ b with n := (b.n + 1) % 256, Rt := false, t := b.t + 1 }, 1))
  else if (num - b.n) % 256 < b.w / 2 then ({ b with Rt := true }, 2) else if (b.n - num) % 256 ≤ b.w / 2 then (b, 3) else ({ b with L := true }, 4)
def takeS (b : Bd) (kind num : Int) : Bd × Int :=
  if kind = 1 then plainS b num else if kind = 2 then ({ b with t := b.t + 1 }, 1) else if kind = 3 then ({ b with L := false, Rt := false, W := false }, 7)
  else if kind = 4 then (if b.L then (b, 5) else ({ b with n := num, Rt := false }, 7)) else ({ b with W := true }, 7)
def ap7 (K : Int → Int → Bool → Bool → Bool → Int → Int → Option R) (x : Bd × Int) : Option R := K x.1.n x.1.w x.1.L x.1.Rt x.1.W x.1.t x.2
def ap8 (K : Int → Int → Bool → Bool → Bool → Int → Int → Int → Option R) (x : Bd × Int) (f : Int) : Option R := K x.1.n x.1.w x.1.L x.1.Rt x.1.W x.1.t x.2 f
/-- What a board becomes, what became of the order, and what is wrong. -/
def takeF (b : Bd) (kind num : Int) (n : Nat) : (Bd × Int) × Int :=
  if chkBoard b ≠ 0 then ((zB, 0), chkBoard b) else if chkOrder kind num n ≠ 0 then ((zB, 0), chkOrder kind num n)
  else if (takeS b kind num).1.t > 1000000 then ((zB, 0), 16) else (takeS b kind num, 0)
/-! what the board tells -/
def repF (b : Bd) : Int × Bool × Bool × Bool × Int := if chkBoard b ≠ 0 then (0, false, false, false, chkBoard b) else (b.n, b.L, b.Rt, b.W, 0)
end Go.Proofs.Ytadkplikobhckaa.PM

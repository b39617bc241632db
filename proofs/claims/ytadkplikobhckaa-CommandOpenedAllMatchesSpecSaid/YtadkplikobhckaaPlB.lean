/- Plain laws of commands: the bytes of orders and reports. -/
import Derived.Test.YtadkplikobhckaaPlA
set_option linter.unusedSimpArgs false
set_option linter.unusedVariables false
namespace Go.Proofs.Ytadkplikobhckaa.PM
open Go Go.Proofs.Ytadkplikobhckaa.Bt
variable {R : Type}

theorem LIM1 : LIM 1 = 140737488355328 := by simp [LIM]
theorem f59_eq {k : Nat} (hk : 0 < k) (l : List Int) (hl : l.length ≤ 140737488355328) (K : List Int → Option R) : f59 k l K = K l := by
  rw [f59_def]
  obtain ⟨k, rfl⟩ := succ_of hk
  simp only [f59d, LIM1, hl, decide_true, cond_true]

def readOrder (l : List Int) : Int × Int × Int × List Int :=
  if l.length < 2 then (0, 0, 3, []) else
  if chkOrder (IntKind.i64.wrap (l.getD 0 0)) (IntKind.i64.wrap (l.getD 1 0)) (l.length - 2) ≠ 0 then (0, 0, chkOrder (IntKind.i64.wrap (l.getD 0 0)) (IntKind.i64.wrap (l.getD 1 0)) (l.length - 2), [])
  else (IntKind.i64.wrap (l.getD 0 0), IntKind.i64.wrap (l.getD 1 0), 0, l.drop 2)
theorem readOrder_len (l : List Int) : (readOrder l).2.2.2.length ≤ l.length := by
  unfold readOrder
  split
  · simp
  · split <;> simp

/-! slices.Equal -/
theorem equal_loop (k : Nat) (K : Bool → Option R) (l m : List Int) (hlm : l.length = m.length) (hl : l.length < 4611686018427387904) : ∀ (d f i : Nat), i + d = l.length → d < f →
    f24_0d k K (K true) l m (l.length : Int) f (i : Int) = K (decide (l.drop i = m.drop i))
  | d, 0, i, _, h => absurd h (Nat.not_lt_zero _)
  | 0, f + 1, i, hi, _ => by
    have h1 : decide ((i : Int) < (l.length : Int)) = false := by simp only [decide_eq_false_iff_not]; omega
    simp only [f24_0d, f24_0b, h1, cond_false]
    rw [List.drop_of_length_le (by omega), List.drop_of_length_le (by omega)]
    simp
  | d + 1, f + 1, i, hi, hf => by
    have h1 : decide ((i : Int) < (l.length : Int)) = true := by simp only [decide_eq_true_eq]; omega
    have h2 : decide ((i : Int) < (m.length : Int)) = true := by simp only [decide_eq_true_eq]; omega
    have h0 : decide ((0 : Int) ≤ (i : Int)) = true := by simp
    have hw : IntKind.i64.wrap ((i : Int) + 1) = ((i + 1 : Nat) : Int) := by rw [wraps_i64 _ (by omega) (by omega)]; omega
    have hli : i < l.length := by omega
    have hmi : i < m.length := by omega
    simp only [f24_0d, f24_0b, h1, h0, h2, cond_true, Bool.and_self, Int.toNat_natCast, hw]
    have g1 : l.getD i 0 = l[i] := by rw [List.getD_eq_getElem?_getD, List.getElem?_eq_getElem hli]; rfl
    have g2 : m.getD i 0 = m[i] := by rw [List.getD_eq_getElem?_getD, List.getElem?_eq_getElem hmi]; rfl
    rw [g1, g2, List.drop_eq_getElem_cons hli, List.drop_eq_getElem_cons hmi, bne_dec]
    by_cases e : l[i] = m[i]
    · simp only [e, decide_true, Bool.not_true, cond_false, List.cons.injEq, true_and]
      exact equal_loop k K l m hlm hl d f (i + 1) (by omega) (by omega)
    · simp only [List.cons.injEq, e, false_and, decide_false, Bool.not_false, cond_true]
theorem f24_eq {k : Nat} {l : List Int} (m : List Int) (hk : l.length + 1 < k) (hl : l.length < 4611686018427387904) (K : Bool → Option R) : f24 k l m K = K (decide (l = m)) := by
  rw [f24_def]
  obtain ⟨k, rfl⟩ := succ_of hk
  simp only [f24d, bne_dec, f24_0_def]
  by_cases h : l.length = m.length
  · have : decide ((l.length : Int) = (m.length : Int)) = true := by simp only [decide_eq_true_eq]; omega
    simp only [this, Bool.not_true, cond_false]
    exact (equal_loop k K l m h hl l.length k 0 (by omega) (by omega)).trans (by simp)
  · have : decide ((l.length : Int) = (m.length : Int)) = false := by simp only [decide_eq_false_iff_not]; omega
    have h' : ¬ l = m := fun e => h (by rw [e])
    simp [this, h']
def readAck (l : List Int) : Int × Bool × Bool × Bool × Int :=
  if l.length = 2 then (if l.getD 1 0 > 7 then (0, false, false, false, 3) else
    (IntKind.i64.wrap (l.getD 0 0), bits .and .u8 (l.getD 1 0) 1 != 0, bits .and .u8 (l.getD 1 0) 2 != 0, bits .and .u8 (l.getD 1 0) 4 != 0, 0)) else (0, false, false, false, 3)
def flag (b : Bool) (n : Int) : Int := if b then n else 0
def ackBytes (a : Int) (l r w : Bool) : Int × List Int := if inB a 0 255 then (0, [IntKind.u8.wrap a, flag l 1 + flag r 2 + flag w 4]) else (1, [])
theorem f25_eq {k : Nat} (hk : 5 < k) (a : Int) (l r w : Bool) (K : Int → List Int → Option R) : f25 k a l r w K = K (ackBytes a l r w).1 (ackBytes a l r w).2 := by
  rw [f25_def]
  obtain ⟨k, rfl⟩ : ∃ j, k = j + 6 := ⟨k - 6, by omega⟩
  simp only [f25d, f62_eq (show 0 < k + 5 by omega), ackBytes, f25_0_def]
  cases hi : inB a 0 255
  · simp
  · simp only [Bool.not_true, cond_false, if_true, f25_0d, f25_0b, f25_1000008_def, f25_1000008d]
    cases l <;> cases r <;> cases w <;> simp [flag, bits, IntKind.wrap, IntKind.bits, IntKind.signed]
theorem f21_eq {k : Nat} (hk : 6 < k) (K : Bool → Option R) : f21 k K = K true := by
  rw [f21_def]
  obtain ⟨k, rfl⟩ := succ_of hk
  simp only [f21d, f25_eq (show 5 < k by omega)]
  have e : ackBytes 7 false true false = (0, [7, 2]) := by simp [ackBytes, inB, flag, IntKind.wrap, IntKind.bits, IntKind.signed]
  simp only [e]
  rw [f24_eq _ (by simp; omega) (by simp)]
  simp

end Go.Proofs.Ytadkplikobhckaa.PM

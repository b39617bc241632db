/- Plain facts: the step of a CRC, in two spellings. -/
import Derived.Test.YtecnlienmpdlaaaBt
namespace Go.Proofs.Ytecnlienmpdlaaa.Crc
open Go Go.Proofs.Ytecnlienmpdlaaa.Bt

/-- One bit of the CRC. -/
def step (s : Nat) : Nat := if 32768 ≤ s then (2 * s - 65536) ^^^ 4129 else 2 * s

theorem step_lt (s : Nat) (h : s < 65536) : step s < 65536 := by
  unfold step
  split
  · exact Nat.xor_lt_two_pow (n := 16) (by omega) (by omega)
  · omega

/-- As the code has it: a bit shifted out, and taken off. -/
theorem stepA (s : Nat) (h : s < 65536) : (bits .and .i64 (IntKind.i64.wrap ((s : Int) * 2 ^ 1)) 65536 != (0 : Int)) = decide (32768 ≤ s) ∧
    (32768 ≤ s → bits .xor .i64 (IntKind.i64.wrap ((s : Int) * 2 ^ 1)) 69665 = (step s : Int)) ∧ (s < 32768 → IntKind.i64.wrap ((s : Int) * 2 ^ 1) = (step s : Int)) := by
  have hw : IntKind.i64.wrap ((s : Int) * 2 ^ 1) = ((2 * s : Nat) : Int) := by rw [wraps_i64 _ (by omega) (by omega)]; omega
  rw [hw]
  have hb := bit_i64 (2 * s) 16 (by omega) (by omega)
  have h16 : ((2 ^ 16 : Nat) : Int) = 65536 := by decide
  rw [h16] at hb
  rw [hb]
  refine ⟨?_, fun hs => ?_, fun hs => ?_⟩
  · by_cases hs : 32768 ≤ s
    · have : 2 * s / 2 ^ 16 % 2 = 1 := by omega
      rw [this]; simp [hs]
    · have : 2 * s / 2 ^ 16 % 2 = 0 := by omega
      rw [this]; simp [hs]
  · have hx := xor_i64 (2 * s) 69665 (by omega) (by omega)
    rw [show ((69665 : Nat) : Int) = 69665 from rfl] at hx
    rw [hx]
    have e1 : 2 * s = 2 ^ 16 ^^^ (2 * s - 65536) := by rw [← add_pow_xor 16 (2 * s - 65536) (by omega)]; omega
    have e2 : 69665 = 2 ^ 16 ^^^ 4129 := by decide
    have : 2 * s ^^^ 69665 = step s := by
      unfold step
      rw [if_pos hs]
      conv => lhs; rw [e1, e2]
      rw [Nat.xor_assoc, ← Nat.xor_assoc (2 * s - 65536), Nat.xor_comm (2 * s - 65536), ← Nat.xor_assoc, ← Nat.xor_assoc, Nat.xor_self, Nat.zero_xor]
    rw [this]
  · unfold step
    rw [if_neg (by omega)]

/-- As the reference has it: cut to sixteen bits. -/
theorem stepB (s : Nat) (h : s < 65536) : (bits .and .i64 (s : Int) 32768 != (0 : Int)) = decide (32768 ≤ s) ∧
    (32768 ≤ s → bits .xor .i64 (bits .and .i64 (IntKind.i64.wrap ((s : Int) * 2 ^ 1)) 65535) 4129 = (step s : Int)) ∧ (s < 32768 → bits .and .i64 (IntKind.i64.wrap ((s : Int) * 2 ^ 1)) 65535 = (step s : Int)) := by
  have hw : IntKind.i64.wrap ((s : Int) * 2 ^ 1) = ((2 * s : Nat) : Int) := by rw [wraps_i64 _ (by omega) (by omega)]; omega
  rw [hw]
  have hb := bit_i64 s 15 (by omega) (by omega)
  have h15 : ((2 ^ 15 : Nat) : Int) = 32768 := by decide
  rw [h15] at hb
  rw [hb]
  have hm := mask_i64 ((2 * s : Nat) : Int) 16 (by omega) (by omega) (by omega)
  have h16 : ((2 : Int) ^ 16 - 1) = 65535 := by decide
  rw [h16] at hm
  rw [hm]
  have hmod : ((2 * s : Nat) : Int) % 2 ^ 16 = ((2 * s % 65536 : Nat) : Int) := by omega
  rw [hmod]
  refine ⟨?_, fun hs => ?_, fun hs => ?_⟩
  · by_cases hs : 32768 ≤ s
    · have : s / 2 ^ 15 % 2 = 1 := by omega
      rw [this]; simp [hs]
    · have : s / 2 ^ 15 % 2 = 0 := by omega
      rw [this]; simp [hs]
  · have hx := xor_i64 (2 * s % 65536) 4129 (by omega) (by omega)
    rw [show ((4129 : Nat) : Int) = 4129 from rfl] at hx
    rw [hx]
    unfold step
    rw [if_pos hs, show 2 * s % 65536 = 2 * s - 65536 by omega]
  · unfold step
    rw [if_neg (by omega), show 2 * s % 65536 = 2 * s by omega]

def steps : Nat → Nat → Nat
  | 0, s => s
  | n + 1, s => steps n (step s)
theorem steps_lt : ∀ (n s : Nat), s < 65536 → steps n s < 65536
  | 0, _, h => h
  | n + 1, s, h => steps_lt n _ (step_lt s h)
theorem steps_zero (s : Nat) : steps 0 s = s := rfl
theorem steps_succ (n s : Nat) : steps (n + 1) s = steps n (step s) := rfl
/-- One byte of the CRC. -/
def byte (s b : Nat) : Nat := steps 8 (s ^^^ b * 256)
theorem byte_def (s b : Nat) : byte s b = steps 8 (s ^^^ b * 256) := rfl
attribute [irreducible] steps byte
/-- The CRC over bytes. -/
def crc (s : Nat) : List Nat → Nat
  | [] => s
  | b :: l => crc (byte s b) l
theorem crc_nil (s : Nat) : crc s [] = s := rfl
theorem crc_cons (s b : Nat) (l : List Nat) : crc s (b :: l) = crc (byte s b) l := rfl
end Go.Proofs.Ytecnlienmpdlaaa.Crc

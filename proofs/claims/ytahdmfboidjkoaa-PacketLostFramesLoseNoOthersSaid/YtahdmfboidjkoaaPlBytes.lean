/- Checking a packet, and its bytes: the code and the reference answer alike. -/
import Derived.Test.YtahdmfboidjkoaaPlWords
set_option linter.unusedSimpArgs false
set_option linter.unusedVariables false
namespace Go.Proofs.Ytahdmfboidjkoaa.PM
open Go Go.Proofs.Ytahdmfboidjkoaa.Bt Go.Proofs.Ytahdmfboidjkoaa.Crc
variable {R : Type}

theorem LIM1 : LIM 1 = 140737488355328 := by decide
theorem bif_le {α : Type} {a b : Nat} {x y : α} (h : a ≤ b) : (bif decide (a ≤ b) then x else y) = x := by simp [h]

/-- What is wrong with a packet. -/
def chk (s p n : Int) (b : List Int) : Int :=
  if ¬(0 ≤ s ∧ s ≤ 2047) then 1 else if ¬(0 ≤ p ∧ p ≤ 3) then 4 else if ¬(0 ≤ n ∧ n ≤ 16383) then 1 else if b.length = 0 then 9 else if 1000 < b.length then 2 else 0
theorem f30_eq (k : Nat) (hk : 2 < k) (s : Int) (c : Bool) (p n : Int) (b : List Int) (K : Int → Option R) : f30 k s c p n b K = K (chk s p n b) := by
  rw [f30_def]
  obtain ⟨k, rfl⟩ : ∃ j, k = j + 1 := ⟨k - 1, by omega⟩
  simp only [f30d, f66_eq k (by omega)]
  unfold chk
  by_cases h1 : 0 ≤ s ∧ s ≤ 2047
  · by_cases h2 : 0 ≤ p ∧ p ≤ 3
    · by_cases h3 : 0 ≤ n ∧ n ≤ 16383
      · by_cases h4 : b.length = 0
        · have : b = [] := List.length_eq_zero_iff.1 h4
          simp [h1, h2, h3, this]
        · have e1 : ((b.length : Int) == 0) = false := beq_eq_false_iff_ne.2 (by omega)
          by_cases h5 : 1000 < b.length
          · have e2 : decide ((b.length : Int) > 1000) = true := by simp only [decide_eq_true_eq]; omega
            rw [e1, e2]
            simp only [h1, h2, h3, h4, h5, and_self, not_true, if_false, if_true, decide_true, Bool.and_self, Bool.not_true, cond_true, cond_false]
          · have e2 : decide ((b.length : Int) > 1000) = false := by simp only [decide_eq_false_iff_not]; omega
            rw [e1, e2]
            simp only [h1, h2, h3, h4, h5, and_self, not_true, if_false, if_true, decide_true, Bool.and_self, Bool.not_true, cond_true, cond_false]
      · have e : (!(decide (0 ≤ n) && decide (n ≤ 16383))) = true := by simp; omega
        simp [h1, h2, h3, e]
    · have e : (!(decide (0 ≤ p) && decide (p ≤ 3))) = true := by simp; omega
      simp [h1, h2, e]
  · have e : (!(decide (0 ≤ s) && decide (s ≤ 2047))) = true := by simp; omega
    simp [h1, e]
/-- A word as two bytes. -/
def put16 (a : Int) : List Int := [IntKind.u8.wrap (Int.fdiv a (2 ^ 8)), IntKind.u8.wrap a]
theorem u8_bounds (a : Int) : 0 ≤ IntKind.u8.wrap a ∧ IntKind.u8.wrap a < 256 := by rw [IntKind.wrap_u8]; omega
theorem put16_B (a : Int) : B (put16 a) := B.cons (u8_bounds _).1 (u8_bounds _).2 (B.cons (u8_bounds _).1 (u8_bounds _).2 B.nil)
theorem put16_len (a : Int) : (put16 a).length = 2 := rfl
theorem f72_eq (k : Nat) (hk : 0 < k) (a : Int) (K : List Int → Option R) : f72 k a K = K (put16 a) := by
  rw [f72_def]
  obtain ⟨k, rfl⟩ : ∃ j, k = j + 1 := ⟨k - 1, by omega⟩
  rfl
theorem f73_eq {l : List Int} (h : B l) (hl : l.length ≤ 1000000) (k : Nat) (hk : l.length + 11 < k) (K : List Int → Option R) : f73 k l K = K (l ++ put16 (crcI l)) := by
  rw [f73_def]
  obtain ⟨k, rfl⟩ : ∃ j, k = j + 1 := ⟨k - 1, by omega⟩
  simp only [f73d, f19_eq h (by omega) k (by omega), f72_eq k (by omega)]
  rw [bif_le (by rw [LIM1, put16_len]; omega)]

/-! lists behind each other -/
theorem cat_len (k : Nat) (x : Int → Option R) (ll : List (List Int)) (hn : ll.length < 4611686018427387904) (hf : ll.flatten.length ≤ 140737488355328) : ∀ (d m i : Nat), i + d = ll.length → d < m →
    f40_0d k x ll ll (ll.length : Int) m (((ll.take i).flatten.length : Nat) : Int) (i : Int) = x (ll.flatten.length : Nat)
  | d, 0, i, _, h => absurd h (Nat.not_lt_zero _)
  | 0, m + 1, i, hi, _ => by
    have h1 : decide ((i : Int) < (ll.length : Int)) = false := by simp; omega
    simp only [f40_0d, f40_0b, h1, cond_false]
    rw [List.take_of_length_le (by omega)]
  | d + 1, m + 1, i, hi, hm => by
    have h1 : decide ((i : Int) < (ll.length : Int)) = true := by simp; omega
    have h0 : decide ((0 : Int) ≤ (i : Int)) = true := by simp
    have hli : i < ll.length := by omega
    have hw : IntKind.i64.wrap ((i : Int) + 1) = ((i + 1 : Nat) : Int) := by rw [wraps_i64 _ (by omega) (by omega)]; omega
    have hg : ll.getD (Int.toNat (i : Int)) [] = ll[i] := by rw [Int.toNat_natCast, List.getD_eq_getElem?_getD, List.getElem?_eq_getElem hli]; rfl
    have ht : (ll.take (i + 1)).flatten.length = (ll.take i).flatten.length + ll[i].length := by
      rw [List.take_succ_eq_append_getElem hli, List.flatten_append, List.length_append]; simp
    have hle : (ll.take (i + 1)).flatten.length ≤ ll.flatten.length := by
      conv => rhs; rw [← List.take_append_drop (i + 1) ll, List.flatten_append, List.length_append]
      omega
    have hs : IntKind.i64.wrap ((((ll.take i).flatten.length : Nat) : Int) + (ll[i].length : Int)) = (((ll.take (i + 1)).flatten.length : Nat) : Int) := by
      rw [wraps_i64 _ (by omega) (by omega)]; omega
    have hneg : decide ((((ll.take (i + 1)).flatten.length : Nat) : Int) < 0) = false := by simp only [decide_eq_false_iff_not]; omega
    simp only [f40_0d, f40_0b, h1, h0, cond_true, Bool.and_self, hg, hs, hw, f40_1000007_def, f40_1000007d, hneg, cond_false]
    exact cat_len k x ll hn hf d m (i + 1) (by omega) (by omega)
theorem cat_all (k : Nat) (x : List Int → Option R) (ll : List (List Int)) (hn : ll.length < 4611686018427387904) (hf : ll.flatten.length ≤ 140737488355328) : ∀ (d m i : Nat), i + d = ll.length → d < m →
    f40_2d k x ll (ll.length : Int) m (i : Int) (ll.take i).flatten = x ll.flatten
  | d, 0, i, _, h => absurd h (Nat.not_lt_zero _)
  | 0, m + 1, i, hi, _ => by
    have h1 : decide ((i : Int) < (ll.length : Int)) = false := by simp; omega
    simp only [f40_2d, f40_2b, h1, cond_false]
    rw [List.take_of_length_le (by omega)]
  | d + 1, m + 1, i, hi, hm => by
    have h1 : decide ((i : Int) < (ll.length : Int)) = true := by simp; omega
    have h0 : decide ((0 : Int) ≤ (i : Int)) = true := by simp
    have hli : i < ll.length := by omega
    have hw : IntKind.i64.wrap ((i : Int) + 1) = ((i + 1 : Nat) : Int) := by rw [wraps_i64 _ (by omega) (by omega)]; omega
    have hg : ll.getD (Int.toNat (i : Int)) [] = ll[i] := by rw [Int.toNat_natCast, List.getD_eq_getElem?_getD, List.getElem?_eq_getElem hli]; rfl
    have ht : (ll.take (i + 1)).flatten = (ll.take i).flatten ++ ll[i] := by
      rw [List.take_succ_eq_append_getElem hli, List.flatten_append]; simp
    have hle : (ll.take (i + 1)).flatten.length ≤ ll.flatten.length := by
      conv => rhs; rw [← List.take_append_drop (i + 1) ll, List.flatten_append, List.length_append]
      omega
    rw [ht, List.length_append] at hle
    have hL : decide ((ll.take i).flatten.length + ll[i].length ≤ LIM 1) = true := by rw [LIM1]; simp only [decide_eq_true_eq]; omega
    simp only [f40_2d, f40_2b, h1, h0, cond_true, Bool.and_self, hg, hw, hL]
    rw [← ht]
    exact cat_all k x ll hn hf d m (i + 1) (by omega) (by omega)
theorem f78_eq (k : Nat) (hk : 0 < k) (n : Nat) (hn : n ≤ 140737488355328) (K : List Int → Option R) : f78 k (n : Int) K = K [] := by
  rw [f78_def]
  obtain ⟨k, rfl⟩ : ∃ j, k = j + 1 := ⟨k - 1, by omega⟩
  have h1 : decide ((n : Int) < 0) = false := by simp only [decide_eq_false_iff_not]; omega
  have hw : IntKind.i64.wrap ((n : Int) - 0) = n := by rw [wraps_i64 _ (by omega) (by omega)]; omega
  simp only [f78d, f78_1000002_def, f78_1000002d, h1, cond_false, f78_1000005_def, f78_1000005d, hw]
  by_cases h : 0 < n
  · have h2 : decide ((n : Int) > 0) = true := by simp; omega
    have h3 : decide ((0 : Int) ≤ (n : Int)) = true := by simp
    have h4 : decide ((List.replicate (Int.toNat (n : Int)) (0 : Int)).length ≤ LIM 1) = true := by rw [LIM1]; simp; omega
    have h5 : decide ((0 : Int) ≤ ((List.replicate (Int.toNat (n : Int)) (0 : Int)).length : Int)) = true := by simp
    simp only [h2, h3, h4, h5, cond_true, Bool.and_self, List.take_zero]
  · have h2 : decide ((n : Int) > 0) = false := by simp; omega
    simp only [h2, cond_false]
theorem f40_eq (ll : List (List Int)) (hn : ll.length < 4611686018427387904) (hf : ll.flatten.length ≤ 140737488355328) (k : Nat) (hk : ll.length + 2 < k) (K : List Int → Option R) : f40 k ll K = K ll.flatten := by
  rw [f40_def]
  obtain ⟨k, rfl⟩ : ∃ j, k = j + 1 := ⟨k - 1, by omega⟩
  simp only [f40d, f40_0_def, f40_2_def]
  have h1 := cat_len (R := R) k (fun y0_0_1 => f78 k y0_0_1 fun r20481_0 => f40_2d k (fun y2_2_0 => K y2_2_0) ll (ll.length : Int) k 0 r20481_0) ll hn hf ll.length k 0 (by omega) (by omega)
  refine Eq.trans h1 ?_
  rw [f78_eq k (by omega) _ hf]
  exact cat_all k K ll hn hf ll.length k 0 (by omega) (by omega)

/-- The bytes of a packet. -/
def rawHead (s : Int) (c : Bool) (p n : Int) (b : List Int) : List Int := put16 (if c then s + 4096 else s) ++ put16 (p * 16384 + n) ++ put16 ((b.length : Int) + 1) ++ b
def raw (s : Int) (c : Bool) (p n : Int) (b : List Int) : List Int := rawHead s c p n b ++ put16 (crcI (rawHead s c p n b))
theorem rawHead_B (s : Int) (c : Bool) (p n : Int) {b : List Int} (h : B b) : B (rawHead s c p n b) := (((put16_B _).app (put16_B _)).app (put16_B _)).app h
theorem rawHead_len (s : Int) (c : Bool) (p n : Int) (b : List Int) : (rawHead s c p n b).length = b.length + 6 := by simp [rawHead, put16_len]; omega
theorem raw_len (s : Int) (c : Bool) (p n : Int) (b : List Int) : (raw s c p n b).length = b.length + 8 := by simp [raw, rawHead_len, put16_len]
theorem raw_B (s : Int) (c : Bool) (p n : Int) {b : List Int} (h : B b) : B (raw s c p n b) := (rawHead_B s c p n h).app (put16_B _)
def Right (s p n : Int) (b : List Int) : Prop := (0 ≤ s ∧ s ≤ 2047) ∧ (0 ≤ p ∧ p ≤ 3) ∧ (0 ≤ n ∧ n ≤ 16383) ∧ 0 < b.length ∧ b.length ≤ 1000
theorem chk_right {s p n : Int} {b : List Int} (h : chk s p n b = 0) : Right s p n b := by
  unfold chk at h
  unfold Right
  split at h
  · cases h
  · split at h
    · cases h
    · split at h
      · cases h
      · split at h
        · cases h
        · split at h
          · cases h
          · omega
theorem f70_eq {s p n : Int} {b : List Int} (hr : Right s p n b) (hB : B b) (c : Bool) (k : Nat) (hk : b.length + 30 < k) (K : List Int → Option R) : f70 k s c p n b K = K (raw s c p n b) := by
  rw [f70_def]
  obtain ⟨k, rfl⟩ : ∃ j, k = j + 1 := ⟨k - 1, by omega⟩
  obtain ⟨h1, h2, h3, h4, h5⟩ := hr
  have e1 : IntKind.i64.wrap (s + 4096) = s + 4096 := wraps_i64 _ (by omega) (by omega)
  have e2 : IntKind.i64.wrap (IntKind.i64.wrap (p * 16384) + n) = p * 16384 + n := by rw [wraps_i64 (p * 16384) (by omega) (by omega), wraps_i64 _ (by omega) (by omega)]
  have e3 : IntKind.i64.wrap ((b.length : Int) + 1) = (b.length : Int) + 1 := wraps_i64 _ (by omega) (by omega)
  have L1 : ∀ x y, decide ((put16 x).length + (put16 y).length ≤ LIM 1) = true := fun x y => decide_eq_true (by rw [LIM1, put16_len, put16_len]; omega)
  have L2 : ∀ x y z, decide ((put16 x ++ put16 y).length + (put16 z).length ≤ LIM 1) = true := fun x y z => decide_eq_true (by rw [LIM1, List.length_append, put16_len, put16_len, put16_len]; omega)
  have L3 : ∀ x y z, decide ((put16 x ++ put16 y ++ put16 z).length + b.length ≤ LIM 1) = true := fun x y z => decide_eq_true (by rw [LIM1, List.length_append, List.length_append, put16_len, put16_len, put16_len]; omega)
  simp only [f70d, f70_1000003_def, f70_1000003d, e1, e2, e3, f72_eq k (by omega), L1, L2, L3, cond_true]
  have hh := fun x y z => f73_eq (R := R) ((((put16_B x).app (put16_B y)).app (put16_B z)).app hB) (by simp [put16_len]; omega) k (by simp [put16_len]; omega) (fun r => K r)
  cases c <;> simp only [cond_true, cond_false] <;> exact hh _ _ _
/-- Its bytes, or a fault. -/
def bytesP (s : Int) (c : Bool) (p n : Int) (b : List Int) : List Int := if chk s p n b = 0 then raw s c p n b else []
theorem bytesP_len (s : Int) (c : Bool) (p n : Int) (b : List Int) : (bytesP s c p n b).length ≤ b.length + 8 := by
  unfold bytesP; split
  · rw [raw_len]; omega
  · simp
end Go.Proofs.Ytahdmfboidjkoaa.PM

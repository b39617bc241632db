/- Reading a packet: the code and the reference answer alike. -/
import Derived.Test.YtahdmfboidjkoaaPlWords
set_option linter.unusedSimpArgs false
set_option linter.unusedVariables false
namespace Go.Proofs.Ytahdmfboidjkoaa.PM
open Go Go.Proofs.Ytahdmfboidjkoaa.Bt Go.Proofs.Ytahdmfboidjkoaa.Crc
variable {R : Type}

/-- What is read: a packet, its length, a fault. -/
structure Rd where
  s : Int
  c : Bool
  p : Int
  n : Int
  m : Int
  e : Int
  b : List Int
def Rd.app (r : Rd) (K : Int → Bool → Int → Int → Int → Int → List Int → Option R) : Option R := K r.s r.c r.p r.n r.m r.e r.b
def Rd.bad (e : Int) : Rd := ⟨0, false, 0, 0, 0, e, []⟩
def readR (l : List Int) : Rd :=
  if l.length < 6 then Rd.bad 9
  else if bits .andNot .i64 (w16 l) 6143 ≠ 0 then Rd.bad 3
  else if ¬ (2 ≤ w16 (l.drop 4) ∧ w16 (l.drop 4) ≤ 1001) then Rd.bad 3
  else if (l.length : Int) < w16 (l.drop 4) + 7 then Rd.bad 9
  else if crcI (l.take (w16 (l.drop 4) + 5).toNat) ≠ w16 (l.drop (w16 (l.drop 4) + 5).toNat) then Rd.bad 15
  else ⟨bits .and .i64 (w16 l) 2047, bits .and .i64 (w16 l) 4096 != 0, w16 (l.drop 2) / 16384, w16 (l.drop 2) % 16384, w16 (l.drop 4) + 7, 0, (l.take (w16 (l.drop 4) + 5).toNat).drop 6⟩

theorem f67_eq {l : List Int} (h : B l) (h2 : 2 ≤ l.length) (hl : l.length < 4611686018427387904) (k : Nat) (hk : l.length + 12 < k) (K : Bool → Option R) : f67 k l K = K (decide (crcI (l.take (l.length - 2)) = w16 (l.drop (l.length - 2)))) := by
  rw [f67_def]
  obtain ⟨k, rfl⟩ : ∃ j, k = j + 1 := ⟨k - 1, by omega⟩
  have hw : IntKind.i64.wrap ((l.length : Int) - 2) = ((l.length - 2 : Nat) : Int) := by rw [wraps_i64 _ (by omega) (by omega)]; omega
  have h0 : decide ((0 : Int) ≤ ((l.length - 2 : Nat) : Int)) = true := by simp
  have h1 : decide (((l.length - 2 : Nat) : Int) ≤ (l.length : Int)) = true := by simp
  simp only [f67d, hw, h0, h1, Bool.and_self, cond_true, Int.toNat_natCast]
  rw [f19_eq (h.take _) (by simp; omega) k (by simp; omega)]
  rw [f65_eq (h.drop _) (by simp; omega) k (by omega)]
  congr 1

theorem shr14 {n : Int} (h0 : 0 ≤ n) : Int.fdiv n (2 ^ 14) = n / 16384 := by
  rw [Int.fdiv_eq_ediv_of_nonneg _ (by omega)]; rfl
theorem and14 {n : Int} (h0 : 0 ≤ n) (h1 : n < 2 ^ 63) : bits .and .i64 n 16383 = n % 16384 := mask_i64 n 14 (by omega) h0 h1

theorem f22_eq {l : List Int} (h : B l) (hl : l.length ≤ 140737488355328) (k : Nat) (hk : l.length + 20 < k) (K : Int → Bool → Int → Int → Int → Int → List Int → Option R) : f22 k l K = (readR l).app K := by
  rw [f22_def]
  obtain ⟨k, rfl⟩ : ∃ j, k = j + 1 := ⟨k - 1, by omega⟩
  unfold readR
  by_cases h6 : l.length < 6
  · have c1 : decide ((l.length : Int) < 6) = true := by simp; omega
    simp only [f22d, c1, cond_true, h6, if_true]
    rfl
  have c1 : decide ((l.length : Int) < 6) = false := by simp; omega
  have c2 : decide ((2 : Int) ≤ (l.length : Int)) = true := by simp; omega
  have c4 : decide ((4 : Int) ≤ (l.length : Int)) = true := by simp; omega
  have B2 := h.drop 2
  have B4 := h.drop 4
  have L2 : 2 ≤ (l.drop 2).length := by simp; omega
  have L4 : 2 ≤ (l.drop 4).length := by simp; omega
  simp only [f22d, c1, c2, c4, cond_true, cond_false, h6, if_false, f65_eq h (by omega) k (by omega), f65_eq B2 L2 k (by omega), f65_eq B4 L4 k (by omega), f66_eq k (by omega)]
  by_cases hb : bits .andNot .i64 (w16 l) 6143 = 0
  · have c5 : ((bits .andNot .i64 (w16 l) 6143 != 0) == false) = true := by simp [hb]
    rw [c5, if_neg (by simpa using hb)]
    simp only [cond_true]
    have w4 := w16_bounds B4
    generalize hn : w16 (l.drop 4) = n at *
    by_cases hr : 2 ≤ n ∧ n ≤ 1001
    · have e1 : IntKind.i64.wrap (n - 1) = n - 1 := wraps_i64 _ (by omega) (by omega)
      have e2 : IntKind.i64.wrap (6 + (n - 1)) = n + 5 := by rw [wraps_i64 _ (by omega) (by omega)]; omega
      have e3 : IntKind.i64.wrap (n + 5 + 2) = n + 7 := by rw [wraps_i64 _ (by omega) (by omega)]; omega
      have e4 : IntKind.i64.wrap (n + 7 - 2) = n + 5 := by rw [wraps_i64 _ (by omega) (by omega)]; omega
      have c6 : (!(decide (1 ≤ n - 1) && decide (n - 1 ≤ 1000))) = false := by simp; omega
      rw [if_neg (by simpa using hr)]
      simp only [e1, e2, e3, e4, c6, cond_false]
      by_cases hs : (l.length : Int) < n + 7
      · have c7 : decide ((l.length : Int) < n + 7) = true := by simpa using hs
        rw [c7, if_pos hs]; rfl
      · have c7 : decide ((l.length : Int) < n + 7) = false := by simpa using hs
        have c8 : decide ((0 : Int) ≤ n + 7) = true := by simp; omega
        have c9 : decide (n + 7 ≤ (l.length : Int)) = true := by simp; omega
        have c10 : decide ((6 : Int) ≤ n + 5) = true := by simp; omega
        have c11 : decide (n + 5 ≤ (l.length : Int)) = true := by simp; omega
        simp only [c7, c8, c9, c10, c11, Bool.and_self, cond_true, cond_false, if_neg hs]
        have t1 : (l.take (n + 7).toNat).length = (n + 7).toNat := by simp; omega
        rw [f67_eq (h.take _) (by omega) (by omega) k (by omega)]
        rw [t1]
        have t2 : (n + 7).toNat - 2 = (n + 5).toNat := by omega
        have t3 : (l.take (n + 7).toNat).take (n + 5).toNat = l.take (n + 5).toNat := by rw [List.take_take]; congr 1; omega
        have t4 : w16 ((l.take (n + 7).toNat).drop (n + 5).toNat) = w16 (l.drop (n + 5).toNat) := by
          rw [List.drop_take]; exact w16_take (by omega)
        rw [t2, t3, t4]
        by_cases hc : crcI (l.take (n + 5).toNat) = w16 (l.drop (n + 5).toNat)
        · have c12 : (!decide (crcI (l.take (n + 5).toNat) = w16 (l.drop (n + 5).toNat))) = false := by simp [hc]
          rw [c12, cond_false, if_neg (not_not_intro hc)]
          rw [f41_eq _ (by simp; omega) k (by omega)]
          have w2 := w16_bounds B2
          have d1 : Int.tdiv (w16 (l.drop 2)) 16384 = w16 (l.drop 2) / 16384 := Int.tdiv_eq_ediv_of_nonneg w2.1
          have d2 : Int.tmod (w16 (l.drop 2)) 16384 = w16 (l.drop 2) % 16384 := Int.tmod_eq_emod_of_nonneg w2.1
          have d3 : IntKind.i64.wrap (w16 (l.drop 2) / 16384) = w16 (l.drop 2) / 16384 := wraps_i64 _ (by omega) (by omega)
          rw [d1, d2, d3]
          rfl
        · have c12 : (!decide (crcI (l.take (n + 5).toNat) = w16 (l.drop (n + 5).toNat))) = true := by simp [hc]
          rw [c12, cond_true, if_pos hc]
          rfl
    · rw [if_pos hr]
      have e1 : IntKind.i64.wrap (n - 1) = n - 1 := by rw [IntKind.wrap_i64]; omega
      have c6 : (!(decide (1 ≤ n - 1) && decide (n - 1 ≤ 1000))) = true := by simp; omega
      simp only [e1, c6, cond_true]
      rfl
  · have c5 : ((bits .andNot .i64 (w16 l) 6143 != 0) == false) = false := by simp [hb]
    rw [c5, if_pos hb]
    rfl
theorem f23_eq {l : List Int} (h : B l) (hl : l.length ≤ 140737488355328) (k : Nat) (hk : l.length + 20 < k) (K : Int → Bool → Int → Int → Int → Int → List Int → Option R) : f23 k l K = (readR l).app K := by
  rw [f23_def]
  obtain ⟨k, rfl⟩ : ∃ j, k = j + 1 := ⟨k - 1, by omega⟩
  unfold readR
  by_cases h6 : l.length < 6
  · have c1 : decide ((l.length : Int) < 6) = true := by simp; omega
    simp only [f23d, c1, cond_true, h6, if_true]
    rfl
  have c1 : decide ((l.length : Int) < 6) = false := by simp; omega
  have c2 : decide ((2 : Int) ≤ (l.length : Int)) = true := by simp; omega
  have c4 : decide ((4 : Int) ≤ (l.length : Int)) = true := by simp; omega
  have B2 := h.drop 2
  have B4 := h.drop 4
  have L2 : 2 ≤ (l.drop 2).length := by simp; omega
  have L4 : 2 ≤ (l.drop 4).length := by simp; omega
  simp only [f23d, c1, c2, c4, cond_true, cond_false, h6, if_false, f68_eq h (by omega) k (by omega), f68_eq B2 L2 k (by omega), f68_eq B4 L4 k (by omega), f69_eq k (by omega)]
  by_cases hb : bits .andNot .i64 (w16 l) 6143 = 0
  · have c5 : ((bits .andNot .i64 (w16 l) 6143 != 0) == false) = true := by simp [hb]
    rw [c5, if_neg (by simpa using hb)]
    simp only [cond_true]
    have w4 := w16_bounds B4
    generalize hn : w16 (l.drop 4) = n at *
    by_cases hr : 2 ≤ n ∧ n ≤ 1001
    · have e1 : IntKind.i64.wrap (n - 1) = n - 1 := wraps_i64 _ (by omega) (by omega)
      have e2 : IntKind.i64.wrap (n - 1 + 8) = n + 7 := by rw [wraps_i64 _ (by omega) (by omega)]; omega
      have e4 : IntKind.i64.wrap (n - 1 + 6) = n + 5 := by rw [wraps_i64 _ (by omega) (by omega)]; omega
      have c6 : (!(decide (1 ≤ n - 1) && decide (n - 1 ≤ 1000))) = false := by simp; omega
      rw [if_neg (by simpa using hr)]
      simp only [e1, e2, e4, c6, cond_false]
      by_cases hs : (l.length : Int) < n + 7
      · have c7 : decide ((l.length : Int) < n + 7) = true := by simpa using hs
        rw [c7, if_pos hs]; rfl
      · have c7 : decide ((l.length : Int) < n + 7) = false := by simpa using hs
        have c8 : decide ((0 : Int) ≤ n + 5) = true := by simp; omega
        have c10 : decide ((6 : Int) ≤ n + 5) = true := by simp; omega
        have c11 : decide (n + 5 ≤ (l.length : Int)) = true := by simp; omega
        simp only [c7, c8, c10, c11, Bool.and_self, cond_true, cond_false, if_neg hs]
        rw [f20_eq (h.take _) (by simp; omega) k (by simp; omega), f68_eq (h.drop _) (by simp; omega) k (by omega)]
        by_cases hc : crcI (l.take (n + 5).toNat) = w16 (l.drop (n + 5).toNat)
        · have c12 : (crcI (l.take (n + 5).toNat) != w16 (l.drop (n + 5).toNat)) = false := by simp [hc]
          rw [c12, cond_false, if_neg (not_not_intro hc)]
          rw [f41_eq _ (by simp; omega) k (by omega)]
          have w2 := w16_bounds B2
          rw [shr14 w2.1, and14 w2.1 (by omega)]
          rfl
        · have c12 : (crcI (l.take (n + 5).toNat) != w16 (l.drop (n + 5).toNat)) = true := by simp [hc]
          rw [c12, cond_true, if_pos hc]
          rfl
    · rw [if_pos hr]
      have e1 : IntKind.i64.wrap (n - 1) = n - 1 := by rw [IntKind.wrap_i64]; omega
      have c6 : (!(decide (1 ≤ n - 1) && decide (n - 1 ≤ 1000))) = true := by simp; omega
      simp only [e1, c6, cond_true]
      rfl
  · have c5 : ((bits .andNot .i64 (w16 l) 6143 != 0) == false) = false := by simp [hb]
    rw [c5, if_pos hb]
    rfl
theorem f24_eq (k : Nat) (a : Int) (b : Bool) (c d : Int) (l : List Int) (a' : Int) (b' : Bool) (c' d' : Int) (l' : List Int) (hl : l.length < 4611686018427387904) (hk : l.length + 3 < k) (K : Bool → Option R) :
    f24 k a b c d l a' b' c' d' l' K = K (decide (a = a' ∧ b = b' ∧ c = c' ∧ d = d' ∧ l = l')) := by
  rw [f24_def]
  obtain ⟨k, rfl⟩ : ∃ j, k = j + 1 := ⟨k - 1, by omega⟩
  have hb : ∀ x y : Int, (x == y) = decide (x = y) := fun _ _ => rfl
  have hb' : (b == b') = decide (b = b') := by cases b <;> cases b' <;> rfl
  simp only [f24d, f32_eq l l' hl k (by omega), hb, hb']
  by_cases h1 : a = a' <;> by_cases h2 : b = b' <;> by_cases h3 : c = c' <;> by_cases h4 : d = d' <;> simp [h1, h2, h3, h4]
theorem readR_len (l : List Int) : (readR l).b.length ≤ l.length := by
  unfold readR
  repeat' split
  all_goals simp [Rd.bad]
  all_goals omega
end Go.Proofs.Ytahdmfboidjkoaa.PM

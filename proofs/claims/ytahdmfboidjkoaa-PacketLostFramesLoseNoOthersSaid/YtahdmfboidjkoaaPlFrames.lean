/- Frames: the code and the reference answer alike, and a frame is read of its bytes. -/
import Derived.Test.YtahdmfboidjkoaaPlBytes
import Derived.Test.YtahdmfboidjkoaaPlRead
set_option linter.unusedSimpArgs false
set_option linter.unusedVariables false
namespace Go.Proofs.Ytahdmfboidjkoaa.PM
open Go Go.Proofs.Ytahdmfboidjkoaa.Bt Go.Proofs.Ytahdmfboidjkoaa.Crc
variable {R : Type}

theorem w16_put {a : Int} (h0 : 0 ≤ a) (h1 : a < 65536) (r : List Int) : w16 (put16 a ++ r) = a := by
  have e1 : Int.fdiv a (2 ^ 8) = a / 256 := by rw [Int.fdiv_eq_ediv_of_nonneg _ (by omega)]; rfl
  have e : w16 (put16 a ++ r) = IntKind.u8.wrap (Int.fdiv a (2 ^ 8)) * 256 + IntKind.u8.wrap a := rfl
  rw [e, e1, IntKind.wrap_u8, IntKind.wrap_u8]
  omega
theorem crcI_lt (l : List Int) (h : B l) : 0 ≤ crcI l ∧ crcI l < 65536 := crcI_bounds h

theorem f96_eq (k : Nat) (hk : 1 < k) (a b c : Int) (K : Int → Option R) : f96 k a b c K = K (if b ≤ a ∧ a ≤ c then 0 else 1) := by
  rw [f96_def]
  obtain ⟨k, rfl⟩ : ∃ j, k = j + 1 := ⟨k - 1, by omega⟩
  simp only [f96d, f66_eq k (by omega)]
  by_cases h : b ≤ a ∧ a ≤ c
  · rw [if_pos h]; simp [h]
  · rw [if_neg h]
    have e : (!(decide (b ≤ a) && decide (a ≤ c))) = true := by simp; omega
    rw [e, cond_true]
/-- What is wrong with a size of frames. -/
def chkN (n : Int) : Int := if 24 ≤ n ∧ n ≤ 1000 then 0 else 1
theorem f75_eq (k : Nat) (hk : 2 < k) (n : Int) (K : Int → Option R) : f75 k n K = K (chkN n) := by
  rw [f75_def]
  obtain ⟨k, rfl⟩ : ∃ j, k = j + 1 := ⟨k - 1, by omega⟩
  simp only [f75d, f96_eq k (by omega)]
  rfl
theorem f76_eq (k : Nat) (hk : 2 < k) (n : Int) (K : Int → Option R) : f76 k n K = K (chkN n) := by
  rw [f76_def]
  obtain ⟨k, rfl⟩ : ∃ j, k = j + 1 := ⟨k - 1, by omega⟩
  simp only [f76d, f69_eq k (by omega), chkN]
  by_cases h : 24 ≤ n ∧ n ≤ 1000
  · rw [if_pos h]; simp [h]
  · rw [if_neg h]
    have e : (!(decide (24 ≤ n) && decide (n ≤ 1000))) = true := by simp; omega
    rw [e, cond_true]
/-- What is wrong with a frame. -/
def chkF (a b c d : Int) (l : List Int) (n : Int) : Int :=
  if ¬(24 ≤ n ∧ n ≤ 1000) then 1 else if ¬(0 ≤ a ∧ a ≤ 65535) then 1 else if ¬(0 ≤ b ∧ b ≤ 7) then 1 else if ¬(0 ≤ c ∧ c ≤ 255) then 1
  else if (l.length : Int) ≠ n - 8 then 3 else if d = 2047 then 0 else if ¬(0 ≤ d ∧ d ≤ (l.length : Int) - 1) then 1 else 0
theorem nrng {a b c : Int} (h : ¬(b ≤ a ∧ a ≤ c)) : (decide (b ≤ a) && decide (a ≤ c)) = false := by simp; omega
theorem prng {a b c : Int} (h : b ≤ a ∧ a ≤ c) : (decide (b ≤ a) && decide (a ≤ c)) = true := by simp [h]
theorem f35_eq (k : Nat) (hk : 4 < k) (a b c d : Int) (l : List Int) (n : Int) (hl : l.length < 4611686018427387904) (K : Int → Option R) : f35 k a b c d l n K = K (chkF a b c d l n) := by
  rw [f35_def]
  obtain ⟨k, rfl⟩ : ∃ j, k = j + 1 := ⟨k - 1, by omega⟩
  simp only [f35d, f75_eq k (by omega), f66_eq k (by omega), chkF, chkN]
  by_cases h1 : 24 ≤ n ∧ n ≤ 1000
  · simp only [h1, and_self, if_true, not_true, if_false, bne_self_eq_false, cond_false]
    by_cases h2 : 0 ≤ a ∧ a ≤ 65535
    · rw [prng h2]; simp only [h2, and_self, not_true, if_false, Bool.not_true, beq_self_eq_true, cond_true]
      by_cases h3 : 0 ≤ b ∧ b ≤ 7
      · rw [prng h3]; simp only [h3, and_self, not_true, if_false, Bool.not_true, beq_self_eq_true, cond_true]
        by_cases h4 : 0 ≤ c ∧ c ≤ 255
        · rw [prng h4]; simp only [h4, and_self, not_true, if_false, Bool.not_true, cond_false]
          have e1 : IntKind.i64.wrap (n - 8) = n - 8 := wraps_i64 _ (by omega) (by omega)
          rw [e1]
          by_cases h5 : (l.length : Int) = n - 8
          · have e2 : ((l.length : Int) != n - 8) = false := by simp [h5]
            rw [e2, cond_false, if_neg (not_not_intro h5)]
            have e3 : IntKind.i64.wrap ((l.length : Int) - 1) = (l.length : Int) - 1 := wraps_i64 _ (by omega) (by omega)
            rw [e3]
            by_cases h6 : d = 2047
            · have e4 : ((d != 2047) == true) = false := by simp [h6]
              rw [e4, cond_false, if_pos h6]
            · have e4 : ((d != 2047) == true) = true := by simp [h6]
              rw [e4, cond_true, if_neg h6]
              by_cases h7 : 0 ≤ d ∧ d ≤ (l.length : Int) - 1
              · rw [prng h7, if_neg (not_not_intro h7)]; rfl
              · rw [nrng h7, if_pos h7]; rfl
          · have e2 : ((l.length : Int) != n - 8) = true := by simpa using h5
            rw [e2, cond_true, if_pos h5]
        · rw [nrng h4]; simp only [h4, not_false_eq_true, if_true]; rfl
      · rw [nrng h3]; simp only [h3, not_false_eq_true, if_true]; rfl
    · rw [nrng h2]; simp only [h2, not_false_eq_true, if_true]; rfl
  · simp only [h1, if_false, not_false_eq_true, if_true]; rfl
theorem f77_eq (k : Nat) (hk : 2 < k) (a b c : Int) (K : Int → Option R) : f77 k a b c K = K (if (0 ≤ a ∧ a ≤ 65535) ∧ (0 ≤ b ∧ b ≤ 7) ∧ (0 ≤ c ∧ c ≤ 255) then 0 else 1) := by
  rw [f77_def]
  obtain ⟨k, rfl⟩ : ∃ j, k = j + 1 := ⟨k - 1, by omega⟩
  simp only [f77d, f69_eq k (by omega)]
  by_cases h2 : 0 ≤ a ∧ a ≤ 65535
  · rw [prng h2]
    by_cases h3 : 0 ≤ b ∧ b ≤ 7
    · rw [prng h3]
      by_cases h4 : 0 ≤ c ∧ c ≤ 255
      · rw [prng h4, if_pos ⟨h2, h3, h4⟩]; rfl
      · rw [nrng h4, if_neg (fun h => h4 h.2.2)]; rfl
    · rw [nrng h3, if_neg (fun h => h3 h.2.1)]; rfl
  · rw [nrng h2, if_neg (fun h => h2 h.1)]; rfl
theorem f36_eq (k : Nat) (hk : 4 < k) (a b c d : Int) (l : List Int) (n : Int) (hl : l.length < 4611686018427387904) (K : Int → Option R) : f36 k a b c d l n K = K (chkF a b c d l n) := by
  rw [f36_def]
  obtain ⟨k, rfl⟩ : ∃ j, k = j + 1 := ⟨k - 1, by omega⟩
  simp only [f36d, f76_eq k (by omega), f77_eq k (by omega), f69_eq k (by omega), chkF, chkN]
  by_cases h1 : 24 ≤ n ∧ n ≤ 1000
  · simp only [h1, and_self, if_true, not_true, if_false, bne_self_eq_false, cond_false]
    by_cases h2 : 0 ≤ a ∧ a ≤ 65535
    · by_cases h3 : 0 ≤ b ∧ b ≤ 7
      · by_cases h4 : 0 ≤ c ∧ c ≤ 255
        · simp only [h2, h3, h4, and_self, if_true, not_true, if_false, bne_self_eq_false, cond_false]
          have e1 : IntKind.i64.wrap (n - 8) = n - 8 := wraps_i64 _ (by omega) (by omega)
          rw [e1]
          by_cases h5 : (l.length : Int) = n - 8
          · have e2 : ((l.length : Int) != n - 8) = false := by simp [h5]
            rw [e2, cond_false, if_neg (not_not_intro h5)]
            have e3 : IntKind.i64.wrap ((l.length : Int) - 1) = (l.length : Int) - 1 := wraps_i64 _ (by omega) (by omega)
            rw [e3]
            by_cases h6 : d = 2047
            · have e4 : ((d != 2047) == true) = false := by simp [h6]
              rw [e4, cond_false, if_pos h6]
            · have e4 : ((d != 2047) == true) = true := by simp [h6]
              rw [e4, cond_true, if_neg h6]
              by_cases h7 : 0 ≤ d ∧ d ≤ (l.length : Int) - 1
              · rw [prng h7, if_neg (not_not_intro h7)]; rfl
              · rw [nrng h7, if_pos h7]; rfl
          · have e2 : ((l.length : Int) != n - 8) = true := by simpa using h5
            rw [e2, cond_true, if_pos h5]
        · simp only [h2, h3, h4, and_self, and_false, not_false_eq_true, if_false, if_true, not_true]; rfl
      · simp only [h2, h3, and_self, false_and, and_false, not_false_eq_true, if_false, if_true, not_true]; rfl
    · simp only [h2, false_and, not_false_eq_true, if_false, if_true]; rfl
  · simp only [h1, if_false, not_false_eq_true, if_true]; rfl

/-- A right frame. -/
def RightF (a b c d : Int) (l : List Int) (n : Int) : Prop := (24 ≤ n ∧ n ≤ 1000) ∧ (0 ≤ a ∧ a ≤ 65535) ∧ (0 ≤ b ∧ b ≤ 7) ∧ (0 ≤ c ∧ c ≤ 255) ∧ (l.length : Int) = n - 8 ∧ (0 ≤ d ∧ d ≤ 2047)
theorem chkF_right {a b c d : Int} {l : List Int} {n : Int} (h : chkF a b c d l n = 0) : RightF a b c d l n := by
  unfold chkF at h
  unfold RightF
  split at h
  · cases h
  · split at h
    · cases h
    · split at h
      · cases h
      · split at h
        · cases h
        · split at h
          · cases h
          · split at h
            · omega
            · split at h
              · cases h
              · omega
/-- The bytes of a frame. -/
def frmHead (a b c d : Int) (l : List Int) : List Int := put16 a ++ [IntKind.u8.wrap b, IntKind.u8.wrap c] ++ put16 d ++ l
def frm (a b c d : Int) (l : List Int) : List Int := frmHead a b c d l ++ put16 (crcI (frmHead a b c d l))
theorem two_B (b c : Int) : B [IntKind.u8.wrap b, IntKind.u8.wrap c] := B.cons (u8_bounds _).1 (u8_bounds _).2 (B.cons (u8_bounds _).1 (u8_bounds _).2 B.nil)
theorem frmHead_B (a b c d : Int) {l : List Int} (h : B l) : B (frmHead a b c d l) := (((put16_B _).app (two_B _ _)).app (put16_B _)).app h
theorem frmHead_len (a b c d : Int) (l : List Int) : (frmHead a b c d l).length = l.length + 6 := by simp [frmHead, put16_len]; omega
theorem frm_len (a b c d : Int) (l : List Int) : (frm a b c d l).length = l.length + 8 := by simp [frm, frmHead_len, put16_len]
theorem frm_B (a b c d : Int) {l : List Int} (h : B l) : B (frm a b c d l) := (frmHead_B a b c d h).app (put16_B _)
def bytesF (a b c d : Int) (l : List Int) (n : Int) : List Int := if chkF a b c d l n = 0 then frm a b c d l else []
/-- What is read as a frame. -/
structure Rf where
  a : Int
  b : Int
  c : Int
  d : Int
  e : Int
  l : List Int
def Rf.app (r : Rf) (K : Int → Int → Int → Int → Int → List Int → Option R) : Option R := K r.a r.b r.c r.d r.e r.l
def Rf.bad (e : Int) : Rf := ⟨0, 0, 0, 0, e, []⟩
def readF (l : List Int) (n : Int) : Rf :=
  if ¬(24 ≤ n ∧ n ≤ 1000) then Rf.bad 1
  else if (l.length : Int) ≠ n then Rf.bad 3
  else if crcI (l.take (l.length - 2)) ≠ w16 (l.drop (l.length - 2)) then Rf.bad 15
  else if chkF (w16 l) (l.getD 2 0) (l.getD 3 0) (w16 (l.drop 4)) ((l.take (l.length - 2)).drop 6) n ≠ 0 then Rf.bad (chkF (w16 l) (l.getD 2 0) (l.getD 3 0) (w16 (l.drop 4)) ((l.take (l.length - 2)).drop 6) n)
  else ⟨w16 l, l.getD 2 0, l.getD 3 0, w16 (l.drop 4), 0, (l.take (l.length - 2)).drop 6⟩
theorem i64_byte {l : List Int} (h : B l) (i : Nat) : IntKind.i64.wrap (l.getD i 0) = l.getD i 0 := by
  have := h.getD i
  exact wraps_i64 _ (by omega) (by omega)
theorem readF_len (l : List Int) (n : Int) : (readF l n).l.length ≤ l.length := by
  unfold readF
  repeat' split
  all_goals simp [Rf.bad]
  all_goals omega

/-- A right frame is read of its bytes. -/
theorem readF_frm {a b c d : Int} {l : List Int} {n : Int} (hB : B l) (h : chkF a b c d l n = 0) : readF (frm a b c d l) n = ⟨a, b, c, d, 0, l⟩ := by
  obtain ⟨h1, h2, h3, h4, h5, h6⟩ := chkF_right h
  have hlen := frm_len a b c d l
  have e0 : (frm a b c d l).length - 2 = (frmHead a b c d l).length := by rw [hlen, frmHead_len]; omega
  have t1 : (frm a b c d l).take ((frm a b c d l).length - 2) = frmHead a b c d l := by rw [e0]; exact List.take_left' rfl
  have t2 : (frm a b c d l).drop ((frm a b c d l).length - 2) = put16 (crcI (frmHead a b c d l)) := by rw [e0]; exact List.drop_left' rfl
  have hc := crcI_bounds (frmHead_B a b c d hB)
  have w1 : w16 (put16 (crcI (frmHead a b c d l))) = crcI (frmHead a b c d l) := by
    have := w16_put hc.1 hc.2 []
    rwa [List.append_nil] at this
  have w2 : w16 (frm a b c d l) = a := by
    have : frm a b c d l = put16 a ++ ([IntKind.u8.wrap b, IntKind.u8.wrap c] ++ (put16 d ++ (l ++ put16 (crcI (frmHead a b c d l))))) := by simp [frm, frmHead]
    rw [this]; exact w16_put (by omega) (by omega) _
  have w3 : w16 ((frm a b c d l).drop 4) = d := by
    have : (frm a b c d l).drop 4 = put16 d ++ (l ++ put16 (crcI (frmHead a b c d l))) := by simp [frm, frmHead, put16]
    rw [this]; exact w16_put (by omega) (by omega) _
  have g2 : (frm a b c d l).getD 2 0 = b := by
    have : (frm a b c d l).getD 2 0 = IntKind.u8.wrap b := rfl
    rw [this, IntKind.wrap_u8]; omega
  have g3 : (frm a b c d l).getD 3 0 = c := by
    have : (frm a b c d l).getD 3 0 = IntKind.u8.wrap c := rfl
    rw [this, IntKind.wrap_u8]; omega
  have t3 : (frmHead a b c d l).drop 6 = l := by simp [frmHead, put16]
  unfold readF
  rw [t1, t2, w1, w2, w3, g2, g3, t3, if_neg (not_not_intro h1), if_neg (by rw [hlen]; omega), if_neg (not_not_intro rfl), if_neg (not_not_intro h)]

end Go.Proofs.Ytahdmfboidjkoaa.PM

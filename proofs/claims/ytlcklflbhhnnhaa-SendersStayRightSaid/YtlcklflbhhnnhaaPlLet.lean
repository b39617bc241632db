/- Plain laws of letters: ranges, letters, receivers' figures. -/
import Derived.Test.YtlcklflbhhnnhaaPlL
set_option linter.unusedSimpArgs false
set_option linter.unusedVariables false
namespace Go.Proofs.Ytlcklflbhhnnhaa.PM
open Go Go.Proofs.Ytlcklflbhhnnhaa.Bt
variable {R : Type}

/-! ranges -/
def rgF (lim : Int) : Option Int → List Rg → Int
  | _, [] => 0
  | p, x :: l => if x.1 < 0 then 1 else if x.2.1 > lim then 1 else if x.2.1 ≤ x.1 then 13 else if (match p with | some e => decide (x.1 ≤ e) | none => false) then 8 else rgF lim (some x.2.1) l
def before (l : List Rg) (i : Nat) : Option Int := if i = 0 then none else some (l.getD (i - 1) (0, (0, ()))).2.1
theorem before_succ {l : List Rg} {i : Nat} (h : i < l.length) : before l (i + 1) = some (l[i]).2.1 := by
  simp only [before, Nat.add_one_ne_zero, if_false, Nat.add_sub_cancel]
  rw [getD_in h]
theorem f45_loop (k : Nat) (K : Int → Option R) (l : List Rg) (lim : Int) (hl : l.length < 4611686018427387904) : ∀ (d f i : Nat), i + d = l.length → d < f →
    f45_0d k K (K 0) l lim l (l.length : Int) f (i : Int) = K (rgF lim (before l i) (l.drop i))
  | d, 0, i, _, h => absurd h (Nat.not_lt_zero _)
  | 0, f + 1, i, hi, _ => by
    have h1 : decide ((i : Int) < (l.length : Int)) = false := by simp only [decide_eq_false_iff_not]; omega
    simp only [f45_0d, f45_0b, h1, cond_false]
    rw [List.drop_of_length_le (by omega)]
    simp [rgF]
  | d + 1, f + 1, i, hi, hf => by
    have h1 : decide ((i : Int) < (l.length : Int)) = true := by simp only [decide_eq_true_eq]; omega
    have h0 : decide ((0 : Int) ≤ (i : Int)) = true := by simp
    have hw : IntKind.i64.wrap ((i : Int) + 1) = ((i + 1 : Nat) : Int) := by rw [wi (by omega) (by omega)]; omega
    have hli : i < l.length := by omega
    have ih := f45_loop k K l lim hl d f (i + 1) (by omega) (by omega)
    rw [before_succ hli] at ih
    have hg : l.getD (Int.toNat (i : Int)) (0, (0, ())) = l[i] := getD_in hli
    simp only [f45_0d, f45_0b, hg]
    simp only [h1, h0, cond_true, Bool.and_self, hw, ih]
    rw [List.drop_eq_getElem_cons hli]
    simp only [rgF, before]
    by_cases hi0 : i = 0
    · subst hi0
      by_cases e1 : (l[0]).1 < 0
      · simp [e1]
      · by_cases e2 : (l[0]).2.1 > lim
        · simp [e1, e2]
        · by_cases e3 : (l[0]).2.1 ≤ (l[0]).1
          · simp [e1, e2, e3]
          · simp [e1, e2, e3]
    · have hp : IntKind.i64.wrap ((i : Int) - 1) = ((i - 1 : Nat) : Int) := by rw [wi (by omega) (by omega)]; omega
      have hp1 : decide (((i - 1 : Nat) : Int) < (l.length : Int)) = true := by simp only [decide_eq_true_eq]; omega
      have hp0 : decide ((0 : Int) ≤ ((i - 1 : Nat) : Int)) = true := by simp only [decide_eq_true_eq]; omega
      have hi1 : decide ((i : Int) > 0) = true := by simp only [decide_eq_true_eq]; omega
      simp only [hp, hp1, hp0, hi1, Bool.and_self, cond_true, Int.toNat_natCast, hi0, if_false]
      generalize l.getD (i - 1) (0, (0, ())) = y
      generalize l[i] = x
      by_cases e1 : x.1 < 0
      · simp [e1]
      · by_cases e2 : x.2.1 > lim
        · simp [e1, e2]
        · by_cases e3 : x.2.1 ≤ x.1
          · simp [e1, e2, e3]
          · by_cases e4 : x.1 ≤ y.2.1 <;> simp [e1, e2, e3, e4]
theorem f46_loop (k : Nat) (K : Int → Option R) (l : List Rg) (lim : Int) (hl : l.length < 4611686018427387904) : ∀ (d f i : Nat), i + d = l.length → d < f →
    f46_0d k K (K 0) l lim f (i : Int) = K (rgF lim (before l i) (l.drop i))
  | d, 0, i, _, h => absurd h (Nat.not_lt_zero _)
  | 0, f + 1, i, hi, _ => by
    have h1 : decide ((i : Int) < (l.length : Int)) = false := by simp only [decide_eq_false_iff_not]; omega
    simp only [f46_0d, f46_0b, h1, cond_false]
    rw [List.drop_of_length_le (by omega)]
    simp [rgF]
  | d + 1, f + 1, i, hi, hf => by
    have h1 : decide ((i : Int) < (l.length : Int)) = true := by simp only [decide_eq_true_eq]; omega
    have h0 : decide ((0 : Int) ≤ (i : Int)) = true := by simp
    have hw : IntKind.i64.wrap ((i : Int) + 1) = ((i + 1 : Nat) : Int) := by rw [wi (by omega) (by omega)]; omega
    have hli : i < l.length := by omega
    have ih := f46_loop k K l lim hl d f (i + 1) (by omega) (by omega)
    rw [before_succ hli] at ih
    have hg : l.getD (Int.toNat (i : Int)) (0, (0, ())) = l[i] := getD_in hli
    simp only [f46_0d, f46_0b, hg]
    simp only [h1, h0, cond_true, Bool.and_self, hw, ih]
    rw [List.drop_eq_getElem_cons hli]
    simp only [rgF, before]
    by_cases hi0 : i = 0
    · subst hi0
      by_cases e1 : (l[0]).1 < 0
      · simp [e1]
      · by_cases e2 : (l[0]).2.1 > lim
        · simp [e1, e2]
        · by_cases e3 : (l[0]).2.1 ≤ (l[0]).1
          · simp [e1, e2, e3]
          · simp [e1, e2, e3]
    · have hp : IntKind.i64.wrap ((i : Int) - 1) = ((i - 1 : Nat) : Int) := by rw [wi (by omega) (by omega)]; omega
      have hp1 : decide (((i - 1 : Nat) : Int) < (l.length : Int)) = true := by simp only [decide_eq_true_eq]; omega
      have hp0 : decide ((0 : Int) ≤ ((i - 1 : Nat) : Int)) = true := by simp only [decide_eq_true_eq]; omega
      have hi1 : decide ((i : Int) > 0) = true := by simp only [decide_eq_true_eq]; omega
      simp only [hp, hp1, hp0, hi1, Bool.and_self, cond_true, Int.toNat_natCast, hi0, if_false]
      generalize l.getD (i - 1) (0, (0, ())) = y
      generalize l[i] = x
      by_cases e1 : x.1 < 0
      · simp [e1]
      · by_cases e2 : x.2.1 > lim
        · simp [e1, e2]
        · by_cases e3 : x.2.1 ≤ x.1
          · simp [e1, e2, e3]
          · by_cases e4 : x.1 ≤ y.2.1 <;> simp [e1, e2, e3, e4]
def chkRgs (l : List Rg) (lim : Int) : Int := if inB lim 0 100000 = false then 1 else if 2000 < l.length then 2 else rgF lim none l
theorem f45_eq {k : Nat} {l : List Rg} (hk : l.length + 2 < k) (lim : Int) (K : Int → Option R) : f45 k l lim K = K (chkRgs l lim) := by
  rw [f45_def]
  obtain ⟨k, rfl⟩ := succ_of hk
  simp only [f45d, f66_eq (show 0 < k by omega), chkRgs]
  cases inB lim 0 100000
  · rfl
  · by_cases h : 2000 < l.length
    · have h1 : decide ((l.length : Int) > 2000) = true := by simp only [decide_eq_true_eq]; omega
      simp [h1, h]
    · have h1 : decide ((l.length : Int) > 2000) = false := by simp only [decide_eq_false_iff_not]; omega
      simp only [h1, h, Bool.not_true, cond_false, if_false, f45_0_def, Bool.true_eq_false]
      exact (f45_loop k K l lim (by omega) l.length k 0 (by omega) (by omega)).trans (by simp [before])
theorem f46_eq {k : Nat} {l : List Rg} (hk : l.length + 2 < k) (lim : Int) (K : Int → Option R) : f46 k l lim K = K (chkRgs l lim) := by
  rw [f46_def]
  obtain ⟨k, rfl⟩ := succ_of hk
  simp only [f46d, f72_eq (show 0 < k by omega), chkRgs]
  cases inB lim 0 100000
  · rfl
  · by_cases h : 2000 < l.length
    · have h1 : decide ((l.length : Int) > 2000) = true := by simp only [decide_eq_true_eq]; omega
      simp [h1, h]
    · have h1 : decide ((l.length : Int) > 2000) = false := by simp only [decide_eq_false_iff_not]; omega
      simp only [h1, h, Bool.not_true, cond_false, if_false, f46_0_def, Bool.true_eq_false]
      exact (f46_loop k K l lim (by omega) l.length k 0 (by omega) (by omega)).trans (by simp [before])

/-! the beginning of a list of ranges -/
def headF (l : List Rg) : Bool := match l with | [] => false | x :: _ => decide (x.1 = -1) && decide (x.2.1 = 0)
def cutF (l : List Rg) : List Rg := bif headF l then l.drop 1 else l
theorem f71_eq {k : Nat} (hk : 1 < k) (l : List Rg) (K : List Rg → Bool → Option R) : f71 k l K = K (cutF l) (headF l) := by
  rw [f71_def]
  obtain ⟨k, rfl⟩ := succ_of hk
  obtain ⟨k, rfl⟩ := succ_of (show 0 < k by omega)
  simp only [f71d, f104_def, f104d]
  cases l with
  | nil => simp [cutF, headF]
  | cons x l =>
    have h1 : decide (((x :: l).length : Int) > 0) = true := by simp only [decide_eq_true_eq, List.length_cons]; omega
    have h2 : decide (0 < ((x :: l).length : Int)) = true := by simp only [decide_eq_true_eq, List.length_cons]; omega
    have h3 : decide (1 ≤ ((x :: l).length : Int)) = true := by simp only [decide_eq_true_eq, List.length_cons]; omega
    simp only [h1, h2, h3, cond_true, cutF, headF, beq_dec, List.getD_cons_zero, Bool.and_true, beq_self_eq_true]
    cases decide (x.1 = -1) && decide (x.2.1 = 0) <;> rfl
theorem f75_eq {k : Nat} (hk : 1 < k) (l : List Rg) (K : Bool → List Rg → Option R) : f75 k l K = K (headF l) (cutF l) := by
  rw [f75_def]
  obtain ⟨k, rfl⟩ := succ_of hk
  obtain ⟨k, rfl⟩ := succ_of (show 0 < k by omega)
  simp only [f75d, f106_def, f106d]
  cases l with
  | nil => simp [cutF, headF]
  | cons x l =>
    have h1 : decide (((x :: l).length : Int) > 0) = true := by simp only [decide_eq_true_eq, List.length_cons]; omega
    have h2 : decide (0 < ((x :: l).length : Int)) = true := by simp only [decide_eq_true_eq, List.length_cons]; omega
    have h3 : decide (1 ≤ ((x :: l).length : Int)) = true := by simp only [decide_eq_true_eq, List.length_cons]; omega
    simp only [h1, h2, h3, cond_true, cutF, headF, beq_dec, List.getD_cons_zero, Bool.and_true, beq_self_eq_true]
    cases decide (x.1 = -1) && decide (x.2.1 = 0) <;> rfl
theorem cutF_len (l : List Rg) : (cutF l).length ≤ l.length := by
  unfold cutF
  cases headF l <;> simp

/-! a letter -/
noncomputable def chkLetter (kind num : Int) (s : ByteArray) (a b c : Int) (l : List Int) (rs : List Rg) (f : Bool) : Int :=
  if inB kind 1 6 = false then 4 else if inB num 0 65535 = false then 1 else if extra kind (emp s) a b c l.length rs.length f = true then 3
  else if kind = 1 ∧ nameOk s = false then 5
  else if kind = 1 ∨ kind = 3 then (if inB a 0 100000 = true ∧ inB b 0 4294967295 = true then 0 else 1)
  else if kind = 2 then (if inB c 0 100000 = false then 1 else if l.length = 0 then 13 else if 4096 < l.length then 2 else if c + l.length > 100000 then 2 else 0)
  else if kind = 4 then (if rs.length = 0 then 9 else chkRgs (cutF rs) 100000) else 0
theorem first2 (p q : Bool) : firstF [if p then 0 else 1, if q then 0 else 1] = if p = true ∧ q = true then 0 else 1 := by cases p <;> cases q <;> rfl
theorem d4096 (n : Nat) : decide ((n : Int) > 4096) = decide (4096 < n) := by rw [Bool.eq_iff_iff]; simp only [decide_eq_true_eq]; omega
theorem f20_eq {k : Nat} (kind num : Int) (s : ByteArray) (a b c : Int) (l : List Int) (rs : List Rg) (f : Bool) (hk : s.size + rs.length + 20 < k) (hs : s.size < 4611686018427387904)
    (K : Int → Option R) : f20 k kind num s a b c l rs f K = K (chkLetter kind num s a b c l rs f) := by
  rw [f20_def]
  obtain ⟨k, rfl⟩ := succ_of hk
  have hcl := cutF_len rs
  simp only [f20d, f66_eq (show 0 < k by omega), f67_eq (show 0 < k by omega), f68_eq (show s.size + 1 < k by omega) hs, f70_eq (show 1 < k by omega), f71_eq (show 1 < k by omega),
    f45_eq (show (cutF rs).length + 2 < k by omega), f20_1000015_def, f20_1000015d]
  rw [f69_eq (k := k) (by simp; omega) (by simp)]
  simp only [first2, beq_dec, leneq, chkLetter, d4096]
  cases inB kind 1 6
  · rfl
  cases inB num 0 65535
  · rfl
  cases extra kind (emp s) a b c l.length rs.length f
  · by_cases k1 : kind = 1
    · subst k1; cases nameOk s <;> simp
    by_cases k3 : kind = 3
    · subst k3; simp
    by_cases k2 : kind = 2
    · subst k2
      cases hc : inB c 0 100000
      · simp
      · by_cases e1 : l.length = 0
        · simp [e1]
        · by_cases e2 : 4096 < l.length
          · simp [e1, e2]
          · obtain ⟨hc1, hc2⟩ := inB_iff.1 hc
            rw [wi (n := c + l.length) (by omega) (by omega)]
            by_cases e3 : c + (l.length : Int) > 100000 <;> simp [e1, e2, e3]
    by_cases k4 : kind = 4
    · subst k4
      by_cases e1 : rs.length = 0 <;> simp [e1]
    simp [k1, k2, k3, k4]
  · rfl
theorem f21_eq {k : Nat} (kind num : Int) (s : ByteArray) (a b c : Int) (l : List Int) (rs : List Rg) (f : Bool) (hk : s.size + rs.length + 20 < k) (hs : s.size < 4611686018427387904)
    (K : Int → Option R) : f21 k kind num s a b c l rs f K = K (chkLetter kind num s a b c l rs f) := by
  rw [f21_def]
  obtain ⟨k, rfl⟩ := succ_of hk
  have hcl := cutF_len rs
  simp only [f21d, f72_eq (show 0 < k by omega), f73_eq (show 0 < k by omega), f74_eq (show s.size + 1 < k by omega) hs, f75_eq (show 1 < k by omega),
    f46_eq (show (cutF rs).length + 2 < k by omega), f21_1000015_def, f21_1000015d, f21_1000010_def, f21_1000010d, f21_1000009_def, f21_1000009d]
  simp only [beq_dec, leneq, chkLetter, d4096]
  cases inB kind 1 6
  · rfl
  cases inB num 0 65535
  · rfl
  cases extra kind (emp s) a b c l.length rs.length f
  · by_cases k1 : kind = 1
    · subst k1; cases nameOk s <;> cases inB a 0 100000 <;> cases inB b 0 4294967295 <;> simp
    by_cases k3 : kind = 3
    · subst k3; cases inB a 0 100000 <;> cases inB b 0 4294967295 <;> simp
    by_cases k2 : kind = 2
    · subst k2
      cases hc : inB c 0 100000
      · simp
      · by_cases e1 : l.length = 0
        · simp [e1]
        · by_cases e2 : 4096 < l.length
          · simp [e1, e2]
          · obtain ⟨hc1, hc2⟩ := inB_iff.1 hc
            rw [wi (n := c + l.length) (by omega) (by omega)]
            by_cases e3 : c + (l.length : Int) > 100000 <;> simp [e1, e2, e3]
    by_cases k4 : kind = 4
    · subst k4
      by_cases e1 : rs.length = 0 <;> simp [e1]
    simp [k1, k2, k3, k4]
  · rfl
def chkFig (a b c d e : Int) : Int := if inB a 1 4096 && inB b 1 1000000 && inB c 1 100 && inB d 1 1000000 && inB e 0 50 then 0 else 1
theorem f22_eq {k : Nat} (hk : 1 < k) (a b c d e : Int) (K : Int → Option R) : f22 k a b c d e K = K (chkFig a b c d e) := by
  rw [f22_def]
  obtain ⟨k, rfl⟩ := succ_of hk
  simp only [f22d, f66_eq (show 0 < k by omega), chkFig]
  cases inB a 1 4096 <;> cases inB b 1 1000000 <;> cases inB c 1 100 <;> cases inB d 1 1000000 <;> cases inB e 0 50 <;> rfl
theorem f24_eq {k : Nat} (hk : 20 < k) (K : Bool → Option R) : f24 k K = K true := by
  rw [f24_def]
  obtain ⟨k, rfl⟩ := succ_of hk
  have hu : U8 [1, 2, 3, 4] := by intro x hx; simp at hx; omega
  simp only [f24d, f18_eq (l := [1, 2, 3, 4]) (show 7 < k by omega) hu]
  rfl
end Go.Proofs.Ytlcklflbhhnnhaa.PM

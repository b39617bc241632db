/- Merged plain texts: PlL, PlLet, PlSend, PlSend2, PlRecv, PlRecv2, PlRecv3. -/
import Derived.Test.YtlcklflbhhnnhaaPT
import Derived.Test.YtlcklflbhhnnhaaBt
/- Plain laws of letters. -/
set_option linter.unusedSimpArgs false
set_option linter.unusedVariables false
namespace Go.Proofs.Ytlcklflbhhnnhaa.PM
open Go Go.Proofs.Ytlcklflbhhnnhaa.Bt
variable {R : Type}

theorem succ_of {k n : Nat} (h : n < k) : ∃ j, k = j + 1 := ⟨k - 1, by omega⟩
theorem beq_dec (a b : Int) : (a == b) = decide (a = b) := rfl
theorem bne_dec (a b : Int) : (a != b) = !decide (a = b) := rfl
theorem wi {n : Int} (h0 : -9223372036854775808 ≤ n) (h1 : n < 9223372036854775808) : IntKind.i64.wrap n = n := by rw [IntKind.wrap_i64]; omega
theorem tmod_nn {a b : Int} (h : 0 ≤ a) : Int.tmod a b = a % b := Int.tmod_eq_emod_of_nonneg h
def inB (a lo hi : Int) : Bool := decide (lo ≤ a) && decide (a ≤ hi)
theorem inB_iff {a lo hi : Int} : inB a lo hi = true ↔ lo ≤ a ∧ a ≤ hi := by simp [inB]
theorem getD_in {α : Type} {l : List α} {i : Nat} {d : α} (h : i < l.length) : l.getD i d = l[i] := by rw [List.getD_eq_getElem?_getD, List.getElem?_eq_getElem h]; rfl

theorem f66_eq {k : Nat} (hk : 0 < k) (a lo hi : Int) (K : Bool → Option R) : f66 k a lo hi K = K (inB a lo hi) := by
  rw [f66_def]
  obtain ⟨k, rfl⟩ := succ_of hk
  simp only [f66d, inB]
  cases decide (lo ≤ a) <;> rfl
/-! sums -/
def sm : List Int → Nat → Int
  | [], _ => 0
  | b :: l, i => b * 2 ^ (24 - 8 * (i % 4)) + sm l (i + 1)
def U8 (l : List Int) : Prop := ∀ x ∈ l, 0 ≤ x ∧ x ≤ 255
theorem pw_le (i : Nat) : (1 : Int) ≤ 2 ^ (24 - 8 * (i % 4)) ∧ (2 : Int) ^ (24 - 8 * (i % 4)) ≤ 16777216 := by
  have h : i % 4 = 0 ∨ i % 4 = 1 ∨ i % 4 = 2 ∨ i % 4 = 3 := by omega
  rcases h with h | h | h | h <;> rw [h] <;> decide
theorem term_le {b : Int} (hb : 0 ≤ b ∧ b ≤ 255) (i : Nat) : 0 ≤ b * 2 ^ (24 - 8 * (i % 4)) ∧ b * 2 ^ (24 - 8 * (i % 4)) ≤ 4294967296 := by
  obtain ⟨h1, h2⟩ := pw_le i
  refine ⟨Int.mul_nonneg hb.1 (by omega), ?_⟩
  have := Int.mul_le_mul hb.2 h2 (by omega) (by omega)
  omega
theorem sm_le : ∀ {l : List Int} (hl : U8 l) (i : Nat), 0 ≤ sm l i ∧ sm l i ≤ l.length * 4294967296
  | [], _, _ => by simp [sm]
  | b :: l, hl, i => by
    have h1 := term_le (hl b (by simp)) i
    have h2 := sm_le (fun x hx => hl x (by simp [hx]) : U8 l) (i + 1)
    simp only [sm, List.length_cons]
    omega
theorem sh_eq (i : Nat) (hi : i < 100001) : IntKind.i64.wrap (24 - IntKind.i64.wrap (8 * Int.tmod (i : Int) 4)) = ((24 - 8 * (i % 4) : Nat) : Int) := by
  rw [tmod_nn (by omega), wi (n := 8 * ((i : Int) % 4)) (by omega) (by omega), wi (by omega) (by omega)]
  omega
theorem f64_loop (k : Nat) (x0 : Int → Option R) (l : List Int) (hl : (l.length : Int) ≤ 100000) (hu : U8 l) : ∀ (d f i : Nat) (v : Int), i + d = l.length → d < f → 0 ≤ v → v ≤ i * 4294967296 →
    f64_0d k x0 l (l.length : Int) f v (i : Int) = x0 (v + sm (l.drop i) i) := by
  intro d
  induction d with
  | zero =>
    intro f i v hi hf hv0 hv1
    obtain ⟨f, rfl⟩ := succ_of hf
    have h1 : decide ((i : Int) < (l.length : Int)) = false := by simp only [decide_eq_false_iff_not]; omega
    simp only [f64_0d, f64_0b, h1, cond_false]
    rw [List.drop_of_length_le (by omega)]
    simp [sm]
  | succ d ih =>
    intro f i v hi hf hv0 hv1
    obtain ⟨f, rfl⟩ := succ_of hf
    have h1 : decide ((i : Int) < (l.length : Int)) = true := by simp only [decide_eq_true_eq]; omega
    have h0 : decide ((0 : Int) ≤ (i : Int)) = true := by simp
    have hw : IntKind.i64.wrap ((i : Int) + 1) = ((i + 1 : Nat) : Int) := by rw [wi (by omega) (by omega)]; omega
    have hli : i < l.length := by omega
    have hb := hu l[i] (List.getElem_mem hli)
    have ht := term_le hb i
    have hs : decide ((0 : Int) ≤ ((24 - 8 * (i % 4) : Nat) : Int)) = true := by simp
    have hm : min (24 - 8 * (i % 4)) 64 = 24 - 8 * (i % 4) := by omega
    simp only [f64_0d, f64_0b, h1, h0, cond_true, Bool.and_self, Int.toNat_natCast, hw, sh_eq i (by omega), hs, hm]
    rw [getD_in hli, wi (n := l[i]) (by omega) (by omega), wi (n := l[i] * 2 ^ (24 - 8 * (i % 4))) (by omega) (by omega), wi (n := v + _) (by omega) (by omega),
      ih f (i + 1) _ (by omega) (by omega) (by omega) (by omega), List.drop_eq_getElem_cons hli]
    simp only [sm]
    rw [Int.add_assoc]
def sumF (l : List Int) : Int × Int := if 100000 < l.length then (0, 2) else (sm l 0 % 4294967296, 0)
theorem f18_eq {k : Nat} {l : List Int} (hk : l.length + 3 < k) (hu : U8 l) (K : Int → Int → Option R) : f18 k l K = K (sumF l).1 (sumF l).2 := by
  rw [f18_def]
  obtain ⟨k, rfl⟩ := succ_of hk
  obtain ⟨k, rfl⟩ := succ_of (show l.length + 1 < k by omega)
  simp only [f18d, sumF]
  by_cases h : 100000 < l.length
  · have h1 : decide ((l.length : Int) > 100000) = true := by simp only [decide_eq_true_eq]; omega
    simp only [h1, h, cond_true, if_true]
  · have h1 : decide ((l.length : Int) > 100000) = false := by simp only [decide_eq_false_iff_not]; omega
    have h2 := sm_le hu 0
    simp only [h1, h, cond_false, if_false, f64_def, f64d, f64_0_def]
    refine (f64_loop k _ l (by omega) hu l.length k 0 0 (by omega) (by omega) (by omega) (by omega)).trans ?_
    have := mask_i64 (sm l 0) 32 (by omega) h2.1 (by omega)
    simp only [List.drop_zero, Int.zero_add]
    rw [show (4294967295 : Int) = 2 ^ 32 - 1 from rfl, this]
    rfl
/-! names -/
theorem dlt (a b : Int) : decide (a < b) = !decide (b ≤ a) := by by_cases h : b ≤ a <;> simp [h] <;> omega
theorem dgt (a b : Int) : decide (a > b) = !decide (a ≤ b) := by by_cases h : a ≤ b <;> simp [h] <;> omega
def charOk (i : Nat) (c : Int) : Bool := (decide (97 ≤ c) && decide (c ≤ 122)) || (decide (i ≠ 0) && (decide (c = 45) || decide (c = 95) || (decide (48 ≤ c) && decide (c ≤ 57))))
def nameF : List Int → Nat → Bool
  | [], _ => true
  | c :: l, i => charOk i c && nameF l (i + 1)
noncomputable def nameOk (s : ByteArray) : Bool := decide (s.size ≠ 0) && decide (s.size ≤ 40) && nameF (bytesOf s) 0
theorem bytesOf_len (s : ByteArray) : (bytesOf s).length = s.size := by simp only [bytesOf, List.length_map, Array.length_toList]; rfl
theorem f68_loop (k : Nat) (K : Bool → Option R) (x0 : Option R) (s : ByteArray) (hs : s.size < 4611686018427387904) : ∀ (d f i : Nat), i + d = s.size → d < f →
    f68_0d k K x0 s (s.size : Int) f (i : Int) = bif nameF ((bytesOf s).drop i) i then x0 else K false
  | d, 0, i, _, h => absurd h (Nat.not_lt_zero _)
  | 0, f + 1, i, hi, _ => by
    have h1 : decide ((i : Int) < (s.size : Int)) = false := by simp only [decide_eq_false_iff_not]; omega
    simp only [f68_0d, f68_0b, h1, cond_false]
    rw [List.drop_of_length_le (by rw [bytesOf_len]; omega)]
    rfl
  | d + 1, f + 1, i, hi, hf => by
    have h1 : decide ((i : Int) < (s.size : Int)) = true := by simp only [decide_eq_true_eq]; omega
    have h0 : decide ((0 : Int) ≤ (i : Int)) = true := by simp
    have hw : IntKind.i64.wrap ((i : Int) + 1) = ((i + 1 : Nat) : Int) := by rw [wi (by omega) (by omega)]; omega
    have hli : i < (bytesOf s).length := by rw [bytesOf_len]; omega
    have ih := f68_loop k K x0 s hs d f (i + 1) (by omega) (by omega)
    simp only [f68_0d, f68_0b]
    generalize hc : (bytesOf s).getD (Int.toNat (i : Int)) 0 = c
    have hc' : (bytesOf s)[i] = c := by rw [← hc, Int.toNat_natCast, getD_in hli]
    simp only [h1, h0, cond_true, Bool.and_self, hw, ih]
    rw [List.drop_eq_getElem_cons hli, hc']
    simp only [nameF]
    generalize nameF ((bytesOf s).drop (i + 1)) (i + 1) = z
    have hz : ((i : Int) == 0) = decide (i = 0) := by rw [beq_dec]; simp
    simp only [charOk, hz, beq_dec, bne_dec, dlt, dgt, ge_iff_le]
    by_cases e1 : 97 ≤ c <;> by_cases e2 : c ≤ 122 <;> by_cases e3 : i = 0 <;> by_cases e4 : c = 45 <;> by_cases e5 : c = 95 <;> by_cases e6 : 48 ≤ c <;> by_cases e7 : c ≤ 57 <;>
      first | (exfalso; omega) | simp [e1, e2, e3, e4, e5, e6, e7]
def emp (s : ByteArray) : Bool := s.toList == (⟨#[]⟩ : ByteArray).toList
theorem emp_size (s : ByteArray) : emp s = decide (s.size = 0) := by
  simp only [emp, ByteArray.toList_eq]
  have h1 : s.data.toList.length = s.size := rfl
  cases h : s.data.toList with
  | nil => rw [h] at h1; have : s.size = 0 := h1.symm; rw [this]; rfl
  | cons a l => rw [h] at h1; have : s.size ≠ 0 := by rw [← h1]; simp
                simp only [this, decide_false]; rfl
theorem f68_eq {k : Nat} {s : ByteArray} (hk : s.size + 1 < k) (hs : s.size < 4611686018427387904) (K : Bool → Option R) : f68 k s K = K (nameOk s) := by
  rw [f68_def]
  obtain ⟨k, rfl⟩ := succ_of hk
  have he : (s.toList == (⟨#[]⟩ : ByteArray).toList) = decide (s.size = 0) := emp_size s
  simp only [f68d, he, nameOk, f68_0_def]
  have h := f68_loop k K (K true) s hs s.size k 0 (by omega) (by omega)
  rw [show ((0 : Nat) : Int) = 0 from rfl] at h
  rw [h]
  have hg : ∀ n : Nat, decide ((n : Int) > 40) = !decide (n ≤ 40) := by intro n; rw [Bool.eq_iff_iff]; simp only [Bool.not_eq_true', decide_eq_true_eq, decide_eq_false_iff_not]; omega
  have hne : decide (s.size ≠ 0) = !decide (s.size = 0) := by by_cases h : s.size = 0 <;> simp only [h, ne_eq, not_true_eq_false, not_false_eq_true, decide_true, decide_false, Bool.not_true, Bool.not_false]
  rw [hg, hne, List.drop_zero]
  cases decide (s.size = 0) <;> cases decide (s.size ≤ 40) <;> cases nameF (bytesOf s) 0 <;> rfl
/-! kit.First -/
def firstF : List Int → Int
  | [] => 0
  | x :: l => if x = 0 then firstF l else x
theorem first_loop (k : Nat) (K : Int → Option R) (l : List Int) (hl : l.length < 4611686018427387904) : ∀ (d f i : Nat), i + d = l.length → d < f →
    f69_0d k K (K 0) l (l.length : Int) f (i : Int) = K (firstF (l.drop i))
  | d, 0, i, _, h => absurd h (Nat.not_lt_zero _)
  | 0, f + 1, i, hi, _ => by
    have h1 : decide ((i : Int) < (l.length : Int)) = false := by simp only [decide_eq_false_iff_not]; omega
    simp only [f69_0d, f69_0b, h1, cond_false]
    rw [List.drop_of_length_le (by omega)]
    rfl
  | d + 1, f + 1, i, hi, _ => by
    have h1 : decide ((i : Int) < (l.length : Int)) = true := by simp only [decide_eq_true_eq]; omega
    have h0 : decide ((0 : Int) ≤ (i : Int)) = true := by simp
    have hw : IntKind.i64.wrap ((i : Int) + 1) = ((i + 1 : Nat) : Int) := by rw [wi (by omega) (by omega)]; omega
    have hli : i < l.length := by omega
    simp only [f69_0d, f69_0b, h1, h0, cond_true, Bool.and_self, Int.toNat_natCast, hw]
    rw [getD_in hli, List.drop_eq_getElem_cons hli, bne_dec]
    by_cases e : l[i] = 0
    · simp only [e, decide_true, Bool.not_true, cond_false, firstF, if_true]
      exact first_loop k K l hl d f (i + 1) (by omega) (by omega)
    · simp only [e, decide_false, Bool.not_false, cond_true, firstF, if_false]
theorem f69_eq {k : Nat} {l : List Int} (hk : l.length + 1 < k) (hl : l.length < 4611686018427387904) (K : Int → Option R) : f69 k l K = K (firstF l) := by
  rw [f69_def]
  obtain ⟨k, rfl⟩ := succ_of hk
  simp only [f69d, f69_0_def]
  exact (first_loop k K l hl l.length k 0 (by omega) (by omega)).trans (by simp)
theorem f70_eq {k : Nat} (hk : 1 < k) (a lo hi : Int) (K : Int → Option R) : f70 k a lo hi K = K (if inB a lo hi then 0 else 1) := by
  rw [f70_def]
  obtain ⟨k, rfl⟩ := succ_of hk
  simp only [f70d, f66_eq (show 0 < k by omega)]
  cases inB a lo hi <;> rfl

/-! what a letter may hold -/
abbrev Rg := Int × (Int × Unit)
def extra (kind : Int) (e : Bool) (a b c : Int) (m : Nat) (n : Nat) (f : Bool) : Bool :=
  !((decide (kind = 1) || e) && (decide (kind = 1) || decide (kind = 3) || (decide (a = 0) && decide (b = 0))) && (decide (kind = 2) || (decide (c = 0) && decide (m = 0))) && (decide (kind = 4) || decide (n = 0)) && (decide (kind = 5) || !f))
theorem lenpos (n : Nat) : decide ((n : Int) > 0) = !decide (n = 0) := by by_cases h : n = 0 <;> simp [h]; omega
theorem leneq (n : Nat) : decide ((n : Int) = 0) = decide (n = 0) := by simp
theorem f67_eq {k : Nat} (hk : 0 < k) (kind num : Int) (s : ByteArray) (a b c : Int) (l : List Int) (rs : List Rg) (f : Bool) (K : Bool → Option R) :
    f67 k kind num s a b c l rs f K = K (extra kind (emp s) a b c l.length rs.length f) := by
  rw [f67_def]
  obtain ⟨k, rfl⟩ := succ_of hk
  have e0 : (((⟨#[]⟩ : ByteArray)).toList == (⟨#[]⟩ : ByteArray).toList) = true := emp_size ⟨#[]⟩
  have es : (s.toList == (⟨#[]⟩ : ByteArray).toList) = emp s := rfl
  simp only [f67d, f67_1000005_def, f67_1000007_def, f67_1000009_def, f67_1000011_def, f67_1000013_def, f67_1000005d, f67_1000007d, f67_1000009d, f67_1000011d, f67_1000013d, beq_dec, bne_dec, lenpos, extra]
  by_cases h1 : kind = 1
  · subst h1
    simp only [decide_true, cond_true, e0, es]
    cases decide (a = 0) <;> cases decide (b = 0) <;> cases decide (c = 0) <;> cases decide (l.length = 0) <;> cases decide (rs.length = 0) <;> cases f <;> simp
  by_cases h2 : kind = 2
  · subst h2
    simp only [decide_true, cond_true, e0, es]
    cases emp s <;> cases decide (a = 0) <;> cases decide (b = 0) <;> cases decide (c = 0) <;> cases decide (l.length = 0) <;> cases decide (rs.length = 0) <;> cases f <;> simp
  by_cases h3 : kind = 3
  · subst h3
    simp only [decide_true, cond_true, e0, es]
    cases emp s <;> cases decide (a = 0) <;> cases decide (b = 0) <;> cases decide (c = 0) <;> cases decide (l.length = 0) <;> cases decide (rs.length = 0) <;> cases f <;> simp
  by_cases h4 : kind = 4
  · subst h4
    simp only [decide_true, cond_true, e0, es]
    cases emp s <;> cases decide (a = 0) <;> cases decide (b = 0) <;> cases decide (c = 0) <;> cases decide (l.length = 0) <;> cases decide (rs.length = 0) <;> cases f <;> simp
  by_cases h5 : kind = 5
  · subst h5
    simp only [decide_true, cond_true, e0, es]
    cases emp s <;> cases decide (a = 0) <;> cases decide (b = 0) <;> cases decide (c = 0) <;> cases decide (l.length = 0) <;> cases decide (rs.length = 0) <;> cases f <;> simp
  simp only [h1, h2, h3, h4, h5, decide_false, cond_false, e0, es]
  cases emp s <;> cases decide (a = 0) <;> cases decide (b = 0) <;> cases decide (c = 0) <;> cases decide (l.length = 0) <;> cases decide (rs.length = 0) <;> cases f <;> simp
end Go.Proofs.Ytlcklflbhhnnhaa.PM
/- Plain laws of letters: ranges, letters, receivers' figures. -/
set_option linter.unusedSimpArgs false
set_option linter.unusedVariables false
namespace Go.Proofs.Ytlcklflbhhnnhaa.PM
open Go Go.Proofs.Ytlcklflbhhnnhaa.Bt
variable {R : Type}

/-! ranges -/
def rgF (lim : Int) : Option Int → List Rg → Int
  | _, [] => 0
  | p, x :: l => if x.1 < 0 then 1 else if x.2.1 > lim then 1 else if x.2.1 ≤ x.1 then 13 else if (match p with | some e => decide (x.1 ≤ e) | none => false) then 8 else rgF lim (some x.2.1) l
def before (l : List Rg) (i : Nat) : Option Int := if i = 0 then none else some (l.getD (i - 1) (0, (0, ()))).2.1
theorem before_succ {l : List Rg} {i : Nat} (h : i < l.length) : before l (i + 1) = some (l[i]).2.1 := by
  simp only [before, Nat.add_one_ne_zero, if_false, Nat.add_sub_cancel]
  rw [getD_in h]
theorem f45_loop (k : Nat) (K : Int → Option R) (l : List Rg) (lim : Int) (hl : l.length < 4611686018427387904) : ∀ (d f i : Nat), i + d = l.length → d < f →
    f45_0d k K (K 0) l lim l (l.length : Int) f (i : Int) = K (rgF lim (before l i) (l.drop i))
  | d, 0, i, _, h => absurd h (Nat.not_lt_zero _)
  | 0, f + 1, i, hi, _ => by
    have h1 : decide ((i : Int) < (l.length : Int)) = false := by simp only [decide_eq_false_iff_not]; omega
    simp only [f45_0d, f45_0b, h1, cond_false]
    rw [List.drop_of_length_le (by omega)]
    simp [rgF]
  | d + 1, f + 1, i, hi, hf => by
    have h1 : decide ((i : Int) < (l.length : Int)) = true := by simp only [decide_eq_true_eq]; omega
    have h0 : decide ((0 : Int) ≤ (i : Int)) = true := by simp
    have hw : IntKind.i64.wrap ((i : Int) + 1) = ((i + 1 : Nat) : Int) := by rw [wi (by omega) (by omega)]; omega
    have hli : i < l.length := by omega
    have ih := f45_loop k K l lim hl d f (i + 1) (by omega) (by omega)
    rw [before_succ hli] at ih
    have hg : l.getD (Int.toNat (i : Int)) (0, (0, ())) = l[i] := getD_in hli
    simp only [f45_0d, f45_0b, hg]
    simp only [h1, h0, cond_true, Bool.and_self, hw, ih]
    rw [List.drop_eq_getElem_cons hli]
    simp only [rgF, before]
    by_cases hi0 : i = 0
    · subst hi0
      by_cases e1 : (l[0]).1 < 0
      · simp [e1]
      · by_cases e2 : (l[0]).2.1 > lim
        · simp [e1, e2]
        · by_cases e3 : (l[0]).2.1 ≤ (l[0]).1
          · simp [e1, e2, e3]
          · simp [e1, e2, e3]
    · have hp : IntKind.i64.wrap ((i : Int) - 1) = ((i - 1 : Nat) : Int) := by rw [wi (by omega) (by omega)]; omega
      have hp1 : decide (((i - 1 : Nat) : Int) < (l.length : Int)) = true := by simp only [decide_eq_true_eq]; omega
      have hp0 : decide ((0 : Int) ≤ ((i - 1 : Nat) : Int)) = true := by simp only [decide_eq_true_eq]; omega
      have hi1 : decide ((i : Int) > 0) = true := by simp only [decide_eq_true_eq]; omega
      simp only [hp, hp1, hp0, hi1, Bool.and_self, cond_true, Int.toNat_natCast, hi0, if_false]
      generalize l.getD (i - 1) (0, (0, ())) = y
      generalize l[i] = x
      by_cases e1 : x.1 < 0
      · simp [e1]
      · by_cases e2 : x.2.1 > lim
        · simp [e1, e2]
        · by_cases e3 : x.2.1 ≤ x.1
          · simp [e1, e2, e3]
          · by_cases e4 : x.1 ≤ y.2.1 <;> simp [e1, e2, e3, e4]
def chkRgs (l : List Rg) (lim : Int) : Int := if inB lim 0 100000 = false then 1 else if 2000 < l.length then 2 else rgF lim none l
theorem f45_eq {k : Nat} {l : List Rg} (hk : l.length + 2 < k) (lim : Int) (K : Int → Option R) : f45 k l lim K = K (chkRgs l lim) := by
  rw [f45_def]
  obtain ⟨k, rfl⟩ := succ_of hk
  simp only [f45d, f66_eq (show 0 < k by omega), chkRgs]
  cases inB lim 0 100000
  · rfl
  · by_cases h : 2000 < l.length
    · have h1 : decide ((l.length : Int) > 2000) = true := by simp only [decide_eq_true_eq]; omega
      simp [h1, h]
    · have h1 : decide ((l.length : Int) > 2000) = false := by simp only [decide_eq_false_iff_not]; omega
      simp only [h1, h, Bool.not_true, cond_false, if_false, f45_0_def, Bool.true_eq_false]
      exact (f45_loop k K l lim (by omega) l.length k 0 (by omega) (by omega)).trans (by simp [before])
/-! the beginning of a list of ranges -/
def headF (l : List Rg) : Bool := match l with | [] => false | x :: _ => decide (x.1 = -1) && decide (x.2.1 = 0)
def cutF (l : List Rg) : List Rg := bif headF l then l.drop 1 else l
theorem f71_eq {k : Nat} (hk : 1 < k) (l : List Rg) (K : List Rg → Bool → Option R) : f71 k l K = K (cutF l) (headF l) := by
  rw [f71_def]
  obtain ⟨k, rfl⟩ := succ_of hk
  obtain ⟨k, rfl⟩ := succ_of (show 0 < k by omega)
  simp only [f71d, f104_def, f104d]
  cases l with
  | nil => simp [cutF, headF]
  | cons x l =>
    have h1 : decide (((x :: l).length : Int) > 0) = true := by simp only [decide_eq_true_eq, List.length_cons]; omega
    have h2 : decide (0 < ((x :: l).length : Int)) = true := by simp only [decide_eq_true_eq, List.length_cons]; omega
    have h3 : decide (1 ≤ ((x :: l).length : Int)) = true := by simp only [decide_eq_true_eq, List.length_cons]; omega
    simp only [h1, h2, h3, cond_true, cutF, headF, beq_dec, List.getD_cons_zero, Bool.and_true, beq_self_eq_true]
    cases decide (x.1 = -1) && decide (x.2.1 = 0) <;> rfl
theorem cutF_len (l : List Rg) : (cutF l).length ≤ l.length := by
  unfold cutF
  cases headF l <;> simp

/-! a letter -/
noncomputable def chkLetter (kind num : Int) (s : ByteArray) (a b c : Int) (l : List Int) (rs : List Rg) (f : Bool) : Int :=
  if inB kind 1 6 = false then 4 else if inB num 0 65535 = false then 1 else if extra kind (emp s) a b c l.length rs.length f = true then 3
  else if kind = 1 ∧ nameOk s = false then 5
  else if kind = 1 ∨ kind = 3 then (if inB a 0 100000 = true ∧ inB b 0 4294967295 = true then 0 else 1)
  else if kind = 2 then (if inB c 0 100000 = false then 1 else if l.length = 0 then 13 else if 4096 < l.length then 2 else if c + l.length > 100000 then 2 else 0)
  else if kind = 4 then (if rs.length = 0 then 9 else chkRgs (cutF rs) 100000) else 0
theorem first2 (p q : Bool) : firstF [if p then 0 else 1, if q then 0 else 1] = if p = true ∧ q = true then 0 else 1 := by cases p <;> cases q <;> rfl
theorem d4096 (n : Nat) : decide ((n : Int) > 4096) = decide (4096 < n) := by rw [Bool.eq_iff_iff]; simp only [decide_eq_true_eq]; omega
theorem f20_eq {k : Nat} (kind num : Int) (s : ByteArray) (a b c : Int) (l : List Int) (rs : List Rg) (f : Bool) (hk : s.size + rs.length + 20 < k) (hs : s.size < 4611686018427387904)
    (K : Int → Option R) : f20 k kind num s a b c l rs f K = K (chkLetter kind num s a b c l rs f) := by
  rw [f20_def]
  obtain ⟨k, rfl⟩ := succ_of hk
  have hcl := cutF_len rs
  simp only [f20d, f66_eq (show 0 < k by omega), f67_eq (show 0 < k by omega), f68_eq (show s.size + 1 < k by omega) hs, f70_eq (show 1 < k by omega), f71_eq (show 1 < k by omega),
    f45_eq (show (cutF rs).length + 2 < k by omega), f20_1000015_def, f20_1000015d]
  rw [f69_eq (k := k) (by simp; omega) (by simp)]
  simp only [first2, beq_dec, leneq, chkLetter, d4096]
  cases inB kind 1 6
  · rfl
  cases inB num 0 65535
  · rfl
  cases extra kind (emp s) a b c l.length rs.length f
  · by_cases k1 : kind = 1
    · subst k1; cases nameOk s <;> simp
    by_cases k3 : kind = 3
    · subst k3; simp
    by_cases k2 : kind = 2
    · subst k2
      cases hc : inB c 0 100000
      · simp
      · by_cases e1 : l.length = 0
        · simp [e1]
        · by_cases e2 : 4096 < l.length
          · simp [e1, e2]
          · obtain ⟨hc1, hc2⟩ := inB_iff.1 hc
            rw [wi (n := c + l.length) (by omega) (by omega)]
            by_cases e3 : c + (l.length : Int) > 100000 <;> simp [e1, e2, e3]
    by_cases k4 : kind = 4
    · subst k4
      by_cases e1 : rs.length = 0 <;> simp [e1]
    simp [k1, k2, k3, k4]
  · rfl
def chkFig (a b c d e : Int) : Int := if inB a 1 4096 && inB b 1 1000000 && inB c 1 100 && inB d 1 1000000 && inB e 0 50 then 0 else 1
theorem f22_eq {k : Nat} (hk : 1 < k) (a b c d e : Int) (K : Int → Option R) : f22 k a b c d e K = K (chkFig a b c d e) := by
  rw [f22_def]
  obtain ⟨k, rfl⟩ := succ_of hk
  simp only [f22d, f66_eq (show 0 < k by omega), chkFig]
  cases inB a 1 4096 <;> cases inB b 1 1000000 <;> cases inB c 1 100 <;> cases inB d 1 1000000 <;> cases inB e 0 50 <;> rfl
theorem f24_eq {k : Nat} (hk : 20 < k) (K : Bool → Option R) : f24 k K = K true := by
  rw [f24_def]
  obtain ⟨k, rfl⟩ := succ_of hk
  have hu : U8 [1, 2, 3, 4] := by intro x hx; simp at hx; omega
  simp only [f24d, f18_eq (l := [1, 2, 3, 4]) (show 7 < k by omega) hu]
  rfl
end Go.Proofs.Ytlcklflbhhnnhaa.PM
/- Plain laws of senders. -/
set_option linter.unusedSimpArgs false
set_option linter.unusedVariables false
namespace Go.Proofs.Ytlcklflbhhnnhaa.PM
open Go Go.Proofs.Ytlcklflbhhnnhaa.Bt
variable {R : Type}

theorem LIM1 : LIM 1 = 140737488355328 := by simp [LIM]
theorem LIM16 : LIM 16 = 8796093022208 := by simp [LIM]
def sumOf (l : List Int) : Int := sm l 0 % 4294967296
theorem f64_eq {k : Nat} {l : List Int} (hk : l.length + 2 < k) (hl : (l.length : Int) ≤ 100000) (hu : U8 l) (K : Int → Option R) : f64 k l K = K (sumOf l) := by
  rw [f64_def]
  obtain ⟨k, rfl⟩ := succ_of hk
  have h2 := sm_le hu 0
  simp only [f64d, f64_0_def]
  refine (f64_loop k _ l (by omega) hu l.length k 0 0 (by omega) (by omega) (by omega) (by omega)).trans ?_
  have := mask_i64 (sm l 0) 32 (by omega) h2.1 (by omega)
  simp only [List.drop_zero, Int.zero_add]
  rw [show (4294967295 : Int) = 2 ^ 32 - 1 from rfl, this]
  rfl
theorem f77_eq {k : Nat} {l : List Int} (hk : 0 < k) (hl : l.length ≤ 1000000000) (K : List Int → Option R) : f77 k l K = K l := by
  rw [f77_def]
  obtain ⟨k, rfl⟩ := succ_of hk
  have : decide (l.length ≤ LIM 1) = true := by rw [LIM1]; simp only [decide_eq_true_eq]; omega
  simp only [f77d, this, cond_true]
theorem f109_eq {k : Nat} {l : List Rg} (hk : 0 < k) (hl : l.length ≤ 1000000000) (K : List Rg → Option R) : f109 k l K = K l := by
  rw [f109_def]
  obtain ⟨k, rfl⟩ := succ_of hk
  have : decide (l.length ≤ LIM 16) = true := by rw [LIM16]; simp only [decide_eq_true_eq]; omega
  simp only [f109d, this, cond_true]

/-! what is begun -/
abbrev Lt := Int × (Int × (ByteArray × (Int × (Int × (Int × (List Int × (List Rg × (Bool × Unit))))))))
/-! a sender -/
/-! what a checked sender is -/
def RgOk (n : Int) (x : Rg) : Prop := 0 ≤ x.1 ∧ x.1 < x.2.1 ∧ x.2.1 ≤ n
theorem rgF_ok {lim : Int} : ∀ {p : Option Int} {l : List Rg}, rgF lim p l = 0 → ∀ x ∈ l, RgOk lim x
  | _, [], _, x, hx => by cases hx
  | p, y :: l, h, x, hx => by
    have hb : RgOk lim y ∧ rgF lim (some y.2.1) l = 0 := by
      simp only [rgF] at h
      by_cases q1 : y.1 < 0
      · simp [q1] at h
      by_cases q2 : y.2.1 > lim
      · simp [q1, q2] at h
      by_cases q3 : y.2.1 ≤ y.1
      · simp [q1, q2, q3] at h
      have hr : RgOk lim y := ⟨by omega, by omega, by omega⟩
      cases p with
      | none => exact ⟨hr, by simpa [q1, q2, q3] using h⟩
      | some e =>
        by_cases q4 : y.1 ≤ e
        · simp [q1, q2, q3, q4] at h
        · exact ⟨hr, by simpa [q1, q2, q3, q4] using h⟩
    rcases List.mem_cons.1 hx with rfl | hx
    · exact hb.1
    · exact rgF_ok hb.2 x hx
theorem chkRgs_ok {l : List Rg} {lim : Int} (h : chkRgs l lim = 0) : (0 ≤ lim ∧ lim ≤ 100000) ∧ l.length ≤ 2000 ∧ ∀ x ∈ l, RgOk lim x := by
  unfold chkRgs at h
  split at h
  · cases h
  · rename_i h1
    split at h
    · cases h
    · exact ⟨inB_iff.1 (by simpa using h1), by omega, rgF_ok h⟩
/-! one letter -/
theorem slice_len {l : List Int} (a b : Nat) : ((l.take b).drop a).length ≤ l.length := by simp only [List.length_drop, List.length_take]; omega
end Go.Proofs.Ytlcklflbhhnnhaa.PM
/- Plain laws of senders: the reference's letter, ticks. -/
set_option linter.unusedSimpArgs false
set_option linter.unusedVariables false
namespace Go.Proofs.Ytlcklflbhhnnhaa.PM
open Go Go.Proofs.Ytlcklflbhhnnhaa.Bt
variable {R : Type}

/-! a run of letters -/
/-! a tick of a sender -/
/-! comparing equals -/
theorem f51_refl {k : Nat} (hk : 0 < k) (l : List Int) (K : Bool → Option R) : f51 k l l K = K true := by
  rw [f51_def]
  obtain ⟨k, rfl⟩ := succ_of hk
  simp only [f51d, beq_self_eq_true]
theorem f40_loop (k : Nat) (K : Bool → Option R) (x0 : Option R) (l : List Rg) (hl : l.length < 4611686018427387904) : ∀ (d f i : Nat), i + d = l.length → d < f →
    f40_0d k K x0 l l (l.length : Int) f (i : Int) = x0
  | d, 0, i, _, h => absurd h (Nat.not_lt_zero _)
  | 0, f + 1, i, hi, _ => by
    have h1 : decide ((i : Int) < (l.length : Int)) = false := by simp only [decide_eq_false_iff_not]; omega
    simp only [f40_0d, f40_0b, h1, cond_false]
  | d + 1, f + 1, i, hi, hf => by
    have h1 : decide ((i : Int) < (l.length : Int)) = true := by simp only [decide_eq_true_eq]; omega
    have h0 : decide ((0 : Int) ≤ (i : Int)) = true := by simp
    have hw : IntKind.i64.wrap ((i : Int) + 1) = ((i + 1 : Nat) : Int) := by rw [wi (by omega) (by omega)]; omega
    simp only [f40_0d, f40_0b, h1, h0, cond_true, Bool.and_self, hw, beq_self_eq_true, Bool.not_true, cond_false]
    exact f40_loop k K x0 l hl d f (i + 1) (by omega) (by omega)
theorem f40_refl {k : Nat} {l : List Rg} (hk : l.length + 1 < k) (hl : l.length < 4611686018427387904) (K : Bool → Option R) : f40 k l l K = K true := by
  rw [f40_def]
  obtain ⟨k, rfl⟩ := succ_of hk
  have : ((l.length : Int) != (l.length : Int)) = false := by rw [bne_dec]; simp
  simp only [f40d, f40_0_def, this, cond_false]
  exact f40_loop k K _ l hl l.length k 0 (by omega) (by omega)
/-! what a tick leaves -/
end Go.Proofs.Ytlcklflbhhnnhaa.PM
/- Plain laws of receivers: what lacks, what is judged. -/
set_option linter.unusedSimpArgs false
set_option linter.unusedVariables false
namespace Go.Proofs.Ytlcklflbhhnnhaa.PM
open Go Go.Proofs.Ytlcklflbhhnnhaa.Bt
variable {R : Type}

/-! what a list lacks -/
def preF : Int → List Rg → List Rg
  | _, [] => []
  | a, x :: l => (if x.1 > a then [(a, (x.1, ()))] else []) ++ preF x.2.1 l
def lastT : Int → List Rg → Int
  | a, [] => a
  | _, x :: l => lastT x.2.1 l
def holesF (l : List Rg) (e : Int) : List Rg := preF 0 l ++ if lastT 0 l < e then [(lastT 0 l, (e, ()))] else []
theorem preF_len : ∀ (a : Int) (l : List Rg), (preF a l).length ≤ l.length
  | _, [] => by simp [preF]
  | a, x :: l => by
    have := preF_len x.2.1 l
    simp only [preF, List.length_append, List.length_cons]
    split <;> simp <;> omega
theorem holesF_len (l : List Rg) (e : Int) : (holesF l e).length ≤ l.length + 1 := by
  have := preF_len 0 l
  unfold holesF
  split <;> simp <;> omega
theorem f87_loop (k : Nat) (x0 : Int → List Rg → Option R) (e : Int) (l : List Rg) (hl : l.length ≤ 1000000) : ∀ (d f i : Nat) (a : Int) (o : List Rg), i + d = l.length → d < f → o.length ≤ i →
    f87_0d k x0 e l (l.length : Int) f a (i : Int) o = x0 (lastT a (l.drop i)) (o ++ preF a (l.drop i)) := by
  intro d
  induction d with
  | zero =>
    intro f i a o hi hf ho
    obtain ⟨f, rfl⟩ := succ_of hf
    have h1 : decide ((i : Int) < (l.length : Int)) = false := by simp only [decide_eq_false_iff_not]; omega
    simp only [f87_0d, f87_0b, h1, cond_false]
    rw [List.drop_of_length_le (by omega)]
    simp [lastT, preF]
  | succ d ih =>
    intro f i a o hi hf ho
    obtain ⟨f, rfl⟩ := succ_of hf
    have h1 : decide ((i : Int) < (l.length : Int)) = true := by simp only [decide_eq_true_eq]; omega
    have h0 : decide ((0 : Int) ≤ (i : Int)) = true := by simp
    have hw : IntKind.i64.wrap ((i : Int) + 1) = ((i + 1 : Nat) : Int) := by rw [wi (by omega) (by omega)]; omega
    have hli : i < l.length := by omega
    have hg : l.getD (Int.toNat (i : Int)) (0, (0, ())) = l[i] := getD_in hli
    simp only [f87_0d, f87_0b, hg, h1, h0, cond_true, Bool.and_self, hw, f87_1000007_def, f87_1000007d]
    rw [List.drop_eq_getElem_cons hli]
    simp only [lastT, preF]
    have hL : decide (o.length + ([((a, ((l[i]).1, ())) : Rg)]).length ≤ LIM 16) = true := by rw [LIM16]; simp only [decide_eq_true_eq, List.length_singleton]; omega
    by_cases q : (l[i]).1 > a
    · simp only [q, decide_true, cond_true, hL, if_true]
      rw [ih f (i + 1) _ _ (by omega) (by omega) (by simp; omega), List.append_assoc]
    · simp only [q, decide_false, cond_false, if_false, List.nil_append]
      exact ih f (i + 1) _ _ (by omega) (by omega) (by omega)
theorem f87_eq {k : Nat} {l : List Rg} (hk : l.length + 2 < k) (hl : l.length ≤ 1000000) (e : Int) (K : List Rg → Option R) : f87 k l e K = K (holesF l e) := by
  rw [f87_def]
  obtain ⟨k, rfl⟩ := succ_of hk
  simp only [f87d, f87_0_def]
  refine (f87_loop k _ e l hl l.length k 0 0 [] (by omega) (by omega) (by simp)).trans ?_
  have := preF_len 0 l
  have hL : decide ((preF 0 l).length + ([((lastT 0 l, (e, ())) : Rg)]).length ≤ LIM 16) = true := by rw [LIM16]; simp only [decide_eq_true_eq, List.length_singleton]; omega
  simp only [f87_1000011_def, f87_1000011d, List.drop_zero, List.nil_append, holesF, hL, cond_true]
  by_cases q : lastT 0 l < e <;> simp [q]
/-! lists in order -/
def Srt (lim : Int) : Int → List Rg → Prop
  | _, [] => True
  | a, x :: l => a ≤ x.1 ∧ x.1 < x.2.1 ∧ x.2.1 ≤ lim ∧ Srt lim x.2.1 l
theorem rgF_srt {lim : Int} : ∀ {p : Option Int} {l : List Rg}, rgF lim p l = 0 → Srt lim (p.getD 0) l
  | _, [], _ => trivial
  | p, y :: l, h => by
    simp only [rgF] at h
    by_cases q1 : y.1 < 0
    · simp [q1] at h
    by_cases q2 : y.2.1 > lim
    · simp [q1, q2] at h
    by_cases q3 : y.2.1 ≤ y.1
    · simp [q1, q2, q3] at h
    cases p with
    | none => exact ⟨by show (0 : Int) ≤ y.1; omega, by omega, by omega, rgF_srt (p := some y.2.1) (by simpa [q1, q2, q3] using h)⟩
    | some e =>
      by_cases q4 : y.1 ≤ e
      · simp [q1, q2, q3, q4] at h
      · exact ⟨by show e ≤ y.1; omega, by omega, by omega, rgF_srt (p := some y.2.1) (by simpa [q1, q2, q3, q4] using h)⟩
theorem lastT_bounds {lim : Int} : ∀ {a : Int} {l : List Rg}, Srt lim a l → a ≤ lastT a l ∧ (a ≤ lim → lastT a l ≤ lim)
  | a, [], _ => ⟨Int.le_refl _, id⟩
  | a, x :: l, ⟨h1, h2, h3, h4⟩ => by
    have := lastT_bounds h4
    simp only [lastT]
    exact ⟨by omega, fun _ => this.2 h3⟩
theorem srt_low {lim : Int} : ∀ {a : Int} {l : List Rg}, Srt lim a l → ∀ x ∈ l, a ≤ x.1
  | _, [], _, x, hx => by cases hx
  | a, y :: l, ⟨h1, h2, h3, h4⟩, x, hx => by
    rcases List.mem_cons.1 hx with rfl | hx
    · exact h1
    · have := srt_low h4 x hx; omega
def inR (l : List Rg) (j : Int) : Prop := ∃ x ∈ l, x.1 ≤ j ∧ j < x.2.1
theorem preF_mem {lim : Int} : ∀ {a : Int} {l : List Rg}, Srt lim a l → ∀ j, inR (preF a l) j ↔ (a ≤ j ∧ j < lastT a l ∧ ¬ inR l j)
  | a, [], _, j => by
    simp only [preF, lastT, inR]
    constructor
    · rintro ⟨x, hx, _⟩; cases hx
    · rintro ⟨h1, h2, _⟩; omega
  | a, x :: l, ⟨h1, h2, h3, h4⟩, j => by
    have ih := preF_mem h4 j
    have hb := (lastT_bounds h4).1
    have hlow := srt_low h4
    simp only [preF, lastT]
    constructor
    · rintro ⟨y, hy, hj⟩
      rcases List.mem_append.1 hy with hy | hy
      · split at hy
        · rw [List.mem_singleton] at hy
          subst hy
          have hj1 : a ≤ j := hj.1
          have hj2 : j < x.1 := hj.2
          refine ⟨hj1, by omega, ?_⟩
          rintro ⟨z, hz, hz1, hz2⟩
          rcases List.mem_cons.1 hz with rfl | hz
          · omega
          · have := hlow z hz; omega
        · cases hy
      · obtain ⟨g1, g2, g3⟩ := ih.1 ⟨y, hy, hj⟩
        refine ⟨by omega, g2, ?_⟩
        rintro ⟨z, hz, hz1, hz2⟩
        rcases List.mem_cons.1 hz with rfl | hz
        · omega
        · exact g3 ⟨z, hz, hz1, hz2⟩
    · rintro ⟨g1, g2, g3⟩
      by_cases q : j < x.1
      · refine ⟨(a, (x.1, ())), List.mem_append.2 (Or.inl ?_), g1, q⟩
        rw [if_pos (show x.1 > a by omega)]; simp
      · have q2 : x.2.1 ≤ j := by
          by_cases q2 : x.2.1 ≤ j
          · exact q2
          · exact absurd ⟨x, by simp, by omega, by omega⟩ g3
        obtain ⟨y, hy, hj⟩ := ih.2 ⟨q2, g2, fun ⟨z, hz, hz'⟩ => g3 ⟨z, by simp [hz], hz'⟩⟩
        exact ⟨y, List.mem_append.2 (Or.inr hy), hj⟩
theorem preF_rg {lim : Int} : ∀ {a : Int} {l : List Rg}, Srt lim a l → ∀ h ∈ preF a l, a ≤ h.1 ∧ h.1 < h.2.1 ∧ h.2.1 ≤ lastT a l
  | a, [], _, h, hh => by cases hh
  | a, x :: l, ⟨h1, h2, h3, h4⟩, h, hh => by
    have hb := (lastT_bounds h4).1
    simp only [preF] at hh
    simp only [lastT]
    rcases List.mem_append.1 hh with hh | hh
    · split at hh
      · rename_i q
        rw [List.mem_singleton] at hh
        subst hh
        exact ⟨Int.le_refl _, q, by show x.1 ≤ _; omega⟩
      · cases hh
    · have := preF_rg h4 h hh
      omega
theorem holesF_last (l : List Rg) : holesF l (lastT 0 l) = preF 0 l := by simp [holesF]

/-! bytes out of what is had -/
def anyNZ : List Int → Bool
  | [] => false
  | b :: l => decide (b ≠ 0) || anyNZ l
theorem anyNZ_iff : ∀ {l : List Int}, anyNZ l = true ↔ ∃ j, ∃ h : j < l.length, l[j] ≠ 0
  | [] => by simp [anyNZ]
  | b :: l => by
    simp only [anyNZ, Bool.or_eq_true, decide_eq_true_eq, anyNZ_iff (l := l)]
    constructor
    · rintro (h | ⟨j, hj, h⟩)
      · exact ⟨0, by simp, by simpa using h⟩
      · exact ⟨j + 1, by simp; omega, by simpa using h⟩
    · rintro ⟨j, hj, h⟩
      cases j with
      | zero => exact Or.inl (by simpa using h)
      | succ j => exact Or.inr ⟨j, by simp at hj; omega, by simpa using h⟩
theorem anyNZ_sub {l : List Int} {a b : Nat} : anyNZ ((l.take b).drop a) = true ↔ ∃ j, ∃ h : j < l.length, a ≤ j ∧ j < b ∧ l[j] ≠ 0 := by
  rw [anyNZ_iff]
  constructor
  · rintro ⟨j, hj, h⟩
    simp only [List.length_drop, List.length_take] at hj
    refine ⟨a + j, by omega, by omega, by omega, ?_⟩
    simpa using h
  · rintro ⟨j, hj, h1, h2, h⟩
    refine ⟨j - a, by simp only [List.length_drop, List.length_take]; omega, ?_⟩
    have : a + (j - a) = j := by omega
    simp only [List.getElem_drop, List.getElem_take, this]
    exact h
def insB (l : List Rg) (j : Int) : Bool := l.any fun x => decide (x.1 ≤ j) && decide (j < x.2.1)
theorem insB_iff {l : List Rg} {j : Int} : insB l j = true ↔ inR l j := by simp [insB, inR]
def badF (hv : List Rg) : List Int → Nat → Bool
  | [], _ => false
  | b :: l, i => (decide (b ≠ 0) && !insB hv i) || badF hv l (i + 1)
theorem badF_iff {hv : List Rg} : ∀ {l : List Int} {i : Nat}, badF hv l i = true ↔ ∃ j, ∃ h : j < l.length, l[j] ≠ 0 ∧ ¬ inR hv ((i + j : Nat) : Int)
  | [], i => by simp [badF]
  | b :: l, i => by
    have hI : (!insB hv (i : Int)) = true ↔ ¬ inR hv (i : Int) := by rw [← insB_iff]; simp
    simp only [badF, Bool.or_eq_true, Bool.and_eq_true, decide_eq_true_eq, badF_iff (l := l), hI]
    constructor
    · rintro (h | ⟨j, hj, h1, h2⟩)
      · exact ⟨0, by simp, by simpa using h⟩
      · exact ⟨j + 1, by simp; omega, by simpa using h1, by rwa [show i + (j + 1) = i + 1 + j by omega]⟩
    · rintro ⟨j, hj, h1, h2⟩
      cases j with
      | zero => exact Or.inl ⟨by simpa using h1, by simpa using h2⟩
      | succ j => exact Or.inr ⟨j, by simp at hj; omega, by simpa using h1, by rwa [show i + 1 + j = i + (j + 1) by omega]⟩
theorem holes_bad {lim : Int} {hv : List Rg} {dat : List Int} (hs : Srt lim 0 hv) (hl : (dat.length : Int) = lastT 0 hv) :
    (preF 0 hv).any (fun h => anyNZ ((dat.take h.2.1.toNat).drop h.1.toNat)) = badF hv dat 0 := by
  rw [Bool.eq_iff_iff, List.any_eq_true, badF_iff]
  constructor
  · rintro ⟨h, hh, hb⟩
    obtain ⟨j, hj, h1, h2, h3⟩ := anyNZ_sub.1 hb
    obtain ⟨r1, r2, r3⟩ := preF_rg hs h hh
    refine ⟨j, hj, h3, ?_⟩
    rw [Nat.zero_add]
    exact ((preF_mem hs (j : Int)).1 ⟨h, hh, by omega, by omega⟩).2.2
  · rintro ⟨j, hj, h1, h2⟩
    rw [Nat.zero_add] at h2
    obtain ⟨h, hh, q1, q2⟩ := (preF_mem hs (j : Int)).2 ⟨by omega, by omega, h2⟩
    obtain ⟨r1, r2, r3⟩ := preF_rg hs h hh
    exact ⟨h, hh, anyNZ_sub.2 ⟨j, hj, by omega, by omega, h1⟩⟩
theorem f94_2_loop (k : Nat) (K : Int → Option R) (x2 : Option R) (y0 y1 : Int) (l : List Int) (hl : l.length < 4611686018427387904) (y5 y6 : Int) (y7 : ByteArray) (y8 : List Int) (y9 : List Rg) (y10 y11 y12 y13 : Int) (y14 : List Rg) :
    ∀ (d f i : Nat), i + d = l.length → d < f → f94_2d k K x2 y0 y1 l (l.length : Int) y5 y6 y7 y8 y9 y10 y11 y12 y13 y14 f (i : Int) = bif anyNZ (l.drop i) then K 3 else x2
  | d, 0, i, _, h => absurd h (Nat.not_lt_zero _)
  | 0, f + 1, i, hi, _ => by
    have h1 : decide ((i : Int) < (l.length : Int)) = false := by simp only [decide_eq_false_iff_not]; omega
    simp only [f94_2d, f94_2b, h1, cond_false]
    rw [List.drop_of_length_le (by omega)]
    rfl
  | d + 1, f + 1, i, hi, hf => by
    have h1 : decide ((i : Int) < (l.length : Int)) = true := by simp only [decide_eq_true_eq]; omega
    have h0 : decide ((0 : Int) ≤ (i : Int)) = true := by simp
    have hw : IntKind.i64.wrap ((i : Int) + 1) = ((i + 1 : Nat) : Int) := by rw [wi (by omega) (by omega)]; omega
    have hli : i < l.length := by omega
    simp only [f94_2d, f94_2b, h1, h0, cond_true, Bool.and_self, Int.toNat_natCast, hw]
    rw [getD_in hli, List.drop_eq_getElem_cons hli, bne_dec]
    simp only [anyNZ]
    by_cases e : l[i] = 0
    · simp only [e, decide_true, Bool.not_true, cond_false, ne_eq, not_true_eq_false, decide_false, Bool.false_or]
      exact f94_2_loop k K x2 y0 y1 l hl y5 y6 y7 y8 y9 y10 y11 y12 y13 y14 d f (i + 1) (by omega) (by omega)
    · simp only [e, decide_false, Bool.not_false, cond_true, ne_eq, not_false_eq_true, decide_true, Bool.true_or]
theorem f94_loop (k : Nat) (K : Int → Option R) (x0 : Option R) (hs : List Rg) (y2 y3 : Int) (y4 : ByteArray) (dat : List Int) (y6 : List Rg) (y7 y8 y9 y10 : Int) (hl : hs.length < 4611686018427387904) (hd : dat.length < 4611686018427387904)
    (hr : ∀ h ∈ hs, 0 ≤ h.1 ∧ h.1 < h.2.1 ∧ h.2.1 ≤ dat.length) (hk : dat.length + 1 < k) :
    ∀ (d f i : Nat), i + d = hs.length → d < f → f94_0d k K x0 (hs.length : Int) y2 y3 y4 dat y6 y7 y8 y9 y10 hs f (i : Int) = bif (hs.drop i).any (fun h => anyNZ ((dat.take h.2.1.toNat).drop h.1.toNat)) then K 3 else x0
  | d, 0, i, _, h => absurd h (Nat.not_lt_zero _)
  | 0, f + 1, i, hi, _ => by
    have h1 : decide ((i : Int) < (hs.length : Int)) = false := by simp only [decide_eq_false_iff_not]; omega
    simp only [f94_0d, f94_0b, h1, cond_false]
    rw [List.drop_of_length_le (by omega)]
    rfl
  | d + 1, f + 1, i, hi, hf => by
    have h1 : decide ((i : Int) < (hs.length : Int)) = true := by simp only [decide_eq_true_eq]; omega
    have h0 : decide ((0 : Int) ≤ (i : Int)) = true := by simp
    have hw : IntKind.i64.wrap ((i : Int) + 1) = ((i + 1 : Nat) : Int) := by rw [wi (by omega) (by omega)]; omega
    have hli : i < hs.length := by omega
    have hg : hs.getD (Int.toNat (i : Int)) (0, (0, ())) = hs[i] := getD_in hli
    obtain ⟨r1, r2, r3⟩ := hr hs[i] (List.getElem_mem hli)
    have q1 : decide (0 ≤ (hs[i]).1) = true := by simp only [decide_eq_true_eq]; omega
    have q2 : decide ((hs[i]).1 ≤ (hs[i]).2.1) = true := by simp only [decide_eq_true_eq]; omega
    have q3 : decide ((hs[i]).2.1 ≤ (dat.length : Int)) = true := by simp only [decide_eq_true_eq]; omega
    simp only [f94_0d, f94_0b, hg, h1, h0, q1, q2, q3, cond_true, Bool.and_self, hw, f94_2_def]
    have hsl := slice_len (l := dat) (hs[i]).1.toNat (hs[i]).2.1.toNat
    rw [show (0 : Int) = ((0 : Nat) : Int) from rfl]
    rw [f94_2_loop k K _ (hs.length : Int) (i : Int) ((dat.take (hs[i]).2.1.toNat).drop (hs[i]).1.toNat) (by omega) y2 y3 y4 dat y6 y7 y8 y9 y10 hs _ k 0 (by rw [Nat.zero_add]) (by omega), List.drop_zero, List.drop_eq_getElem_cons hli, List.any_cons,
      f94_loop k K x0 hs y2 y3 y4 dat y6 y7 y8 y9 y10 hl hd hr hk d f (i + 1) (by omega) (by omega)]
    cases anyNZ ((dat.take (hs[i]).2.1.toNat).drop (hs[i]).1.toNat) <;> simp
end Go.Proofs.Ytlcklflbhhnnhaa.PM
/- Plain laws of receivers: checks and ticks. -/
set_option linter.unusedSimpArgs false
set_option linter.unusedVariables false
namespace Go.Proofs.Ytlcklflbhhnnhaa.PM
open Go Go.Proofs.Ytlcklflbhhnnhaa.Bt
variable {R : Type}

structure Rv where
  st : Int
  id : Int
  nm : ByteArray
  dat : List Int
  hv : List Rg
  sz : Int
  sum : Int
  wt : Int
  tr : Int
def zR : Rv := ⟨0, 0, ⟨#[]⟩, [], [], 0, 0, 0, 0⟩
theorem lastT_getD : ∀ (a : Int) (l : List Rg), l ≠ [] → lastT a l = (l.getD (l.length - 1) (0, (0, ()))).2.1
  | a, [], h => absurd rfl h
  | a, [x], _ => rfl
  | a, x :: y :: l, _ => by
    have := lastT_getD x.2.1 (y :: l) (by simp)
    simp only [lastT] at this ⊢
    rw [this]
    simp
theorem ends_eq {l : List Rg} (hl : l.length < 4611686018427387904) (h : l ≠ []) : (decide (0 ≤ IntKind.i64.wrap ((l.length : Int) - 1)) && decide (IntKind.i64.wrap ((l.length : Int) - 1) < (l.length : Int))) = true ∧ (l.getD (Int.toNat (IntKind.i64.wrap ((l.length : Int) - 1))) (0, (0, ()))).2.1 = lastT 0 l := by
  have hp : 0 < l.length := List.length_pos_iff.2 h
  have hw : IntKind.i64.wrap ((l.length : Int) - 1) = ((l.length - 1 : Nat) : Int) := by rw [wi (by omega) (by omega)]; omega
  rw [hw, lastT_getD 0 l h, Int.toNat_natCast]
  exact ⟨by simp only [Bool.and_eq_true, decide_eq_true_eq]; omega, rfl⟩
def stB (q2 w0 s1 q0 e l0 t0 h0 : Bool) : Bool := (q2 && (w0 || s1)) || (!q2 && !w0) || (q0 && !(e && l0 && s1 && t0)) || (q2 && !e && h0)
def formV (r : Rv) : Int := if (r.dat.length : Int) ≠ lastT 0 r.hv then 3 else if badF r.hv r.dat 0 = true then 3 else if r.sz = -1 ∧ (r.sum ≠ 0 ∨ emp r.nm = false) then 3 else 0
noncomputable def chkRecv (r : Rv) : Int :=
  if inB r.id 0 65535 = false then 1 else if inB r.st 0 4 = false then 4 else if emp r.nm = false ∧ nameOk r.nm = false then 5
  else if inB r.sz (-1) 100000 = false then 1 else if inB r.sum 0 4294967295 = false then 1 else if inB r.wt 0 1000000 = false then 1 else if inB r.tr 0 50 = false then 1
  else if chkRgs r.hv (if r.sz = -1 then 100000 else r.sz) ≠ 0 then chkRgs r.hv (if r.sz = -1 then 100000 else r.sz)
  else if formV r ≠ 0 then formV r
  else if stB (decide (r.st = 2)) (decide (r.wt = 0)) (decide (r.sz = -1)) (decide (r.st = 0)) (emp r.nm) (decide (r.dat.length = 0)) (decide (r.tr = 0)) (decide ((holesF r.hv r.sz).length = 0)) = true then 11 else 0
theorem f94_eq {k : Nat} (r : Rv) {lim : Int} (hs : Srt lim 0 r.hv) (hlim : 0 ≤ lim ∧ lim ≤ 100000) (hl : r.hv.length ≤ 2000) (hk : r.hv.length + 100010 < k) (K : Int → Option R) :
    f94 k r.st r.id r.nm r.dat r.hv r.sz r.sum r.wt r.tr K = K (formV r) := by
  rw [f94_def]
  obtain ⟨k, rfl⟩ := succ_of hk
  have he : ∀ xN : Int → Option R, f94_1000004 k xN 0 (r.hv.length : Int) (decide ((r.hv.length : Int) > 0)) r.st r.id r.nm r.dat r.hv r.sz r.sum r.wt r.tr = xN (lastT 0 r.hv) := by
    intro xN
    simp only [f94_1000004_def, f94_1000004d, lenpos]
    by_cases h : r.hv = []
    · rw [h]; rfl
    · obtain ⟨h1, h2⟩ := ends_eq (by omega) h
      have h3 : r.hv.length ≠ 0 := by simp [h]
      simp only [h1, h2, h3, decide_false, Bool.not_false, cond_true]
  obtain ⟨b1, b2⟩ := lastT_bounds hs
  have b3 := b2 hlim.1
  have hpl := preF_len 0 r.hv
  simp only [f94d, he, bne_dec, formV]
  by_cases h : (r.dat.length : Int) = lastT 0 r.hv
  · simp only [h, decide_true, Bool.not_true, cond_false, ne_eq, not_true_eq_false, if_false, f87_eq (show r.hv.length + 2 < k by omega) (show r.hv.length ≤ 1000000 by omega), holesF_last, f94_0_def]
    refine (f94_loop k K _ (preF 0 r.hv) r.st r.id r.nm r.dat r.hv r.sz r.sum r.wt r.tr (by omega) (by omega) (fun x hx => by
      obtain ⟨q1, q2, q3⟩ := preF_rg hs x hx
      exact ⟨q1, q2, by omega⟩) (by omega) (preF 0 r.hv).length k 0 (by omega) (by omega)).trans ?_
    rw [List.drop_zero, holes_bad hs h]
    have es : (r.nm.toList == (⟨#[]⟩ : ByteArray).toList) = emp r.nm := rfl
    rw [es]
    cases badF r.hv r.dat 0
    · by_cases e1 : r.sz = -1 <;> by_cases e2 : r.sum = 0 <;> cases emp r.nm <;> simp [e1, e2, beq_dec]
    · simp
  · simp [h]
theorem chkRgs_srt {l : List Rg} {lim : Int} (h : chkRgs l lim = 0) : Srt lim 0 l := by
  unfold chkRgs at h
  by_cases h1 : inB lim 0 100000 = false
  · simp [h1] at h
  · by_cases h2 : 2000 < l.length
    · simp [h1, h2] at h
    · simp only [h1, h2, if_false] at h
      exact rgF_srt (p := none) h
theorem f95_eq {k : Nat} (r : Rv) (hl : r.hv.length ≤ 1000000) (hk : r.hv.length + 4 < k) (K : List Rg → Option R) : f95 k r.st r.id r.nm r.dat r.hv r.sz r.sum r.wt r.tr K = K (holesF r.hv r.sz) := by
  rw [f95_def]
  obtain ⟨k, rfl⟩ := succ_of hk
  simp only [f95d, f87_eq (show r.hv.length + 2 < k by omega) hl]
theorem f56_eq {k : Nat} (r : Rv) (hn : r.nm.size < 4611686018427387904) (hk : r.nm.size + r.hv.length + 100020 < k) (K : Int → Option R) :
    f56 k r.st r.id r.nm r.dat r.hv r.sz r.sum r.wt r.tr K = K (chkRecv r) := by
  rw [f56_def]
  obtain ⟨k, rfl⟩ := succ_of hk
  have es : (r.nm.toList == (⟨#[]⟩ : ByteArray).toList) = emp r.nm := rfl
  have hsz : ∀ xN : Int → Option R, f56_1000011 k xN r.sz (r.sz == -1) r.st r.id r.nm r.dat r.hv r.sz r.sum r.wt r.tr = xN (if r.sz = -1 then 100000 else r.sz) := by
    intro xN
    simp only [f56_1000011_def, f56_1000011d, beq_dec]
    by_cases h : r.sz = -1 <;> simp [h]
  simp only [f56d, f66_eq (show 0 < k by omega), f68_eq (show r.nm.size + 1 < k by omega) hn, es, hsz, f45_eq (l := r.hv) (show r.hv.length + 2 < k by omega), chkRecv]
  cases inB r.id 0 65535
  · rfl
  cases inB r.st 0 4
  · rfl
  cases inB r.sz (-1) 100000
  · cases emp r.nm <;> cases nameOk r.nm <;> rfl
  cases inB r.sum 0 4294967295
  · cases emp r.nm <;> cases nameOk r.nm <;> rfl
  cases inB r.wt 0 1000000
  · cases emp r.nm <;> cases nameOk r.nm <;> rfl
  cases inB r.tr 0 50
  · cases emp r.nm <;> cases nameOk r.nm <;> rfl
  by_cases hc : chkRgs r.hv (if r.sz = -1 then 100000 else r.sz) = 0
  · obtain ⟨c1, c2, c3⟩ := chkRgs_ok hc
    have hs := chkRgs_srt hc
    have hc' : (chkRgs r.hv (if r.sz = -1 then 100000 else r.sz) != 0) = false := by rw [bne_dec]; simp [hc]
    simp only [hc', f94_eq r hs c1 (show r.hv.length ≤ 2000 by omega) (show r.hv.length + 100010 < k by omega), f95_eq r (show r.hv.length ≤ 1000000 by omega) (show r.hv.length + 4 < k by omega), beq_dec, leneq]
    simp only [bne_dec]
    by_cases hf : formV r = 0
    · simp only [hc, hf, ne_eq, not_true_eq_false, if_false, decide_true, Bool.not_true, cond_false]
      generalize emp r.nm = e, nameOk r.nm = n, decide (r.st = 2) = q2, decide (r.wt = 0) = w0, decide (r.sz = -1) = s1, decide (r.st = 0) = q0, decide (r.dat.length = 0) = l0, decide (r.tr = 0) = t0, decide ((holesF r.hv r.sz).length = 0) = h0
      cases e <;> cases n <;> (try rfl) <;> cases q2 <;> cases w0 <;> cases s1 <;> cases q0 <;> cases l0 <;> cases t0 <;> cases h0 <;> rfl
    · cases emp r.nm <;> cases nameOk r.nm <;> simp [hc, hf]
  · have hc' : (chkRgs r.hv (if r.sz = -1 then 100000 else r.sz) != 0) = true := by rw [bne_dec]; simp [hc]
    simp only [hc']
    cases emp r.nm <;> cases nameOk r.nm <;> simp [hc]

def lackF (r : Rv) : List Rg := bif emp r.nm then (-1, (0, ())) :: holesF r.hv r.sz else holesF r.hv r.sz
end Go.Proofs.Ytlcklflbhhnnhaa.PM
/- Plain laws of receivers: ticks. -/
set_option linter.unusedSimpArgs false
set_option linter.unusedVariables false
namespace Go.Proofs.Ytlcklflbhhnnhaa.PM
open Go Go.Proofs.Ytlcklflbhhnnhaa.Bt
variable {R : Type}

theorem f132_eq {k : Nat} (hk : 0 < k) {n : Int} (h0 : 0 ≤ n) (h1 : n ≤ 1000000000) (K : List Rg → Option R) : f132 k n K = K [] := by
  rw [f132_def]
  obtain ⟨k, rfl⟩ := succ_of hk
  have hd : decide (n < 0) = false := by simp only [decide_eq_false_iff_not]; omega
  simp only [f132d, f132_1000002_def, f132_1000002d, hd, cond_false, f132_1000005_def, f132_1000005d, Int.sub_zero]
  rw [wi (by omega) (by omega)]
  by_cases h : n > 0
  · have h2 : decide ((List.replicate n.toNat ((0, (0, ())) : Rg)).length ≤ LIM 16) = true := by rw [LIM16]; simp only [decide_eq_true_eq, List.length_replicate]; omega
    have h3 : decide (0 ≤ n) = true := by simp only [decide_eq_true_eq]; omega
    have h4 : decide (0 ≤ ((List.replicate n.toNat ((0, (0, ())) : Rg)).length : Int)) = true := by simp only [decide_eq_true_eq]; omega
    simp only [h, h2, h3, h4, decide_true, cond_true, Bool.and_self, List.take_zero]
  · simp only [h, decide_false, cond_false]
theorem f114_eq {k : Nat} (hk : 5 < k) (a b : List Rg) (ha : a.length ≤ 100000) (hb : b.length ≤ 100000) (K : List Rg → Option R) : f114 k [a, b] K = K (a ++ b) := by
  rw [f114_def]
  obtain ⟨k, rfl⟩ := succ_of hk
  obtain ⟨k, rfl⟩ := succ_of (show 2 < k by omega)
  obtain ⟨k, rfl⟩ := succ_of (show 1 < k by omega)
  obtain ⟨k, rfl⟩ := succ_of (show 0 < k by omega)
  have w0 : IntKind.i64.wrap (0 + (a.length : Int)) = (a.length : Int) := by rw [wi (by omega) (by omega)]; omega
  have w1 : IntKind.i64.wrap ((a.length : Int) + (b.length : Int)) = (a.length : Int) + (b.length : Int) := wi (by omega) (by omega)
  have n0 : decide ((a.length : Int) < 0) = false := by simp only [decide_eq_false_iff_not]; omega
  have n1 : decide ((a.length : Int) + (b.length : Int) < 0) = false := by simp only [decide_eq_false_iff_not]; omega
  have i1 : IntKind.i64.wrap (0 + 1) = 1 := by decide
  have i2 : IntKind.i64.wrap (1 + 1) = 2 := by decide
  have l1 : decide (([] : List Rg).length + a.length ≤ LIM 16) = true := by rw [LIM16]; simp only [decide_eq_true_eq, List.length_nil]; omega
  have l2 : decide (a.length + b.length ≤ LIM 16) = true := by rw [LIM16]; simp only [decide_eq_true_eq]; omega
  simp only [f114d, f114_0_def, f114_2_def, f114_1000007_def, f114_1000007d, f114_0d, f114_0b, f114_2d, f114_2b, List.length_cons, List.length_nil, i1, i2]
  simp only [show decide ((0 : Int) < ((0 + 1 + 1 : Nat) : Int)) = true from by decide, show decide ((1 : Int) < ((0 + 1 + 1 : Nat) : Int)) = true from by decide, show decide ((2 : Int) < ((0 + 1 + 1 : Nat) : Int)) = false from by decide,
    show decide ((0 : Int) ≤ 0) = true from by decide, show decide ((0 : Int) ≤ 1) = true from by decide, Bool.and_self, cond_true, cond_false, Int.toNat_zero, Int.toNat_one, List.getD_cons_zero, List.getD_cons_succ, w0, n0, w1, n1]
  rw [f132_eq (show 0 < k + 1 + 1 + 1 by omega) (by omega) (by omega)]
  simp only [List.nil_append, l1, l2, cond_true, List.length_nil]
  simp only [List.length_nil] at l1
  simp only [l1, cond_true]
theorem f131_eq {k : Nat} (hk : 8 < k) (l : List Rg) (hl : l.length ≤ 100000) (b : Bool) (K : List Rg → Option R) : f131 k l b K = K (bif b then (-1, (0, ())) :: l else l) := by
  rw [f131_def]
  obtain ⟨k, rfl⟩ := succ_of hk
  cases b
  · rfl
  · simp only [f131d, cond_true, f104_def]
    rw [show f104d (R := R) k = fun K => f104d k K from rfl]
    obtain ⟨k, rfl⟩ := succ_of (show 0 < k by omega)
    simp only [f104d]
    rw [f114_eq (show 5 < k + 1 by omega) _ _ (by simp) hl]
    rfl
theorem holes_cut {lim : Int} {l : List Rg} (hs : Srt lim 0 l) (e : Int) : headF (holesF l e) = false := by
  have hb := (lastT_bounds hs).1
  have : ∀ x ∈ holesF l e, 0 ≤ x.1 := by
    intro x hx
    unfold holesF at hx
    rcases List.mem_append.1 hx with hx | hx
    · exact (preF_rg hs x hx).1
    · split at hx
      · rw [List.mem_singleton] at hx; subst hx; exact hb
      · cases hx
  cases h : holesF l e with
  | nil => rfl
  | cons x r =>
    rw [h] at this
    have := this x (by simp)
    have h1 : ¬ x.1 = -1 := by omega
    simp [headF, h1]
theorem cutF_lack {lim : Int} (r : Rv) (hs : Srt lim 0 r.hv) : cutF (lackF r) = holesF r.hv r.sz := by
  have h := holes_cut hs r.sz
  unfold lackF
  rcases Bool.eq_false_or_eq_true (emp r.nm) with he | he
  · rw [he]; simp [cutF, headF]
  · rw [he]; simp [cutF, h]

/-! a tick of a receiver -/
def holeL (r : Rv) : Lt := (4, (r.id, (⟨#[]⟩, (0, (0, (0, ([], (lackF r, (false, ())))))))))
def stopR (r : Rv) : Lt := (6, (r.id, (⟨#[]⟩, (0, (0, (0, ([], ([], (false, ())))))))))
def apRF (K : Int → Int → ByteArray → List Int → List Rg → Int → Int → Int → Int → Int → List Lt → Option R) (x : (Rv × List Lt) × Int) : Option R :=
  K x.1.1.st x.1.1.id x.1.1.nm x.1.1.dat x.1.1.hv x.1.1.sz x.1.1.sum x.1.1.wt x.1.1.tr x.2 x.1.2
theorem f112_eq {k : Nat} (r : Rv) (hl : r.hv.length ≤ 2000) (hk : r.hv.length + 20 < k) (K : List Rg → Int → Option R) :
    f112 k r.st r.id r.nm r.dat r.hv r.sz r.sum r.wt r.tr K = if 2000 < (holesF r.hv r.sz).length then K [] 2 else K (lackF r) 0 := by
  rw [f112_def]
  obtain ⟨k, rfl⟩ := succ_of hk
  have hh := holesF_len r.hv r.sz
  have es : (r.nm.toList == (⟨#[]⟩ : ByteArray).toList) = emp r.nm := rfl
  have hd : decide (((holesF r.hv r.sz).length : Int) > 2000) = decide (2000 < (holesF r.hv r.sz).length) := by rw [Bool.eq_iff_iff]; simp only [decide_eq_true_eq]; omega
  simp only [f112d, f95_eq r (show r.hv.length ≤ 1000000 by omega) (show r.hv.length + 4 < k by omega), hd, es, f131_eq (show 8 < k by omega) (holesF r.hv r.sz) (by omega), lackF]
  by_cases h : 2000 < (holesF r.hv r.sz).length <;> simp [h]
theorem f83_eq {k : Nat} (r : Rv) (hk : 2 < k) (h1 : r.dat.length ≤ 1000000000) (h2 : r.hv.length ≤ 1000000000) (K : Int → Int → ByteArray → Int → Int → Int → Int → List Int → List Rg → Option R) :
    f83 k r.st r.id r.nm r.dat r.hv r.sz r.sum r.wt r.tr K = K r.st r.id r.nm r.sz r.sum r.wt r.tr r.dat r.hv := by
  rw [f83_def]
  obtain ⟨k, rfl⟩ := succ_of hk
  simp only [f83d, f77_eq (show 0 < k by omega) h1, f109_eq (show 0 < k by omega) h2]
theorem f38_refl {k : Nat} (r : Rv) (hk : r.hv.length + 3 < k) (hl : r.hv.length < 4611686018427387904) (K : Bool → Option R) :
    f38 k r.st r.id r.nm r.dat r.hv r.sz r.sum r.wt r.tr r.st r.id r.nm r.dat r.hv r.sz r.sum r.wt r.tr K = K true := by
  rw [f38_def]
  obtain ⟨k, rfl⟩ := succ_of hk
  simp only [f38d, f51_refl (show 0 < k by omega), f40_refl (show r.hv.length + 1 < k by omega) hl, beq_self_eq_true, cond_true]
end Go.Proofs.Ytlcklflbhhnnhaa.PM

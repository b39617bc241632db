/- Plain laws of letters. -/
import Derived.Test.YtlcklflbhhnnhaaPT
import Derived.Test.YtlcklflbhhnnhaaBt
set_option linter.unusedSimpArgs false
set_option linter.unusedVariables false
namespace Go.Proofs.Ytlcklflbhhnnhaa.PM
open Go Go.Proofs.Ytlcklflbhhnnhaa.Bt
variable {R : Type}

theorem succ_of {k n : Nat} (h : n < k) : ∃ j, k = j + 1 := ⟨k - 1, by omega⟩
theorem beq_dec (a b : Int) : (a == b) = decide (a = b) := rfl
theorem bne_dec (a b : Int) : (a != b) = !decide (a = b) := rfl
theorem wi {n : Int} (h0 : -9223372036854775808 ≤ n) (h1 : n < 9223372036854775808) : IntKind.i64.wrap n = n := by rw [IntKind.wrap_i64]; omega
theorem tmod_nn {a b : Int} (h : 0 ≤ a) : Int.tmod a b = a % b := Int.tmod_eq_emod_of_nonneg h
theorem tdiv_nn {a b : Int} (h : 0 ≤ a) : Int.tdiv a b = a / b := Int.tdiv_eq_ediv_of_nonneg h
def inB (a lo hi : Int) : Bool := decide (lo ≤ a) && decide (a ≤ hi)
theorem inB_iff {a lo hi : Int} : inB a lo hi = true ↔ lo ≤ a ∧ a ≤ hi := by simp [inB]
theorem getD_in {α : Type} {l : List α} {i : Nat} {d : α} (h : i < l.length) : l.getD i d = l[i] := by rw [List.getD_eq_getElem?_getD, List.getElem?_eq_getElem h]; rfl

theorem f66_eq {k : Nat} (hk : 0 < k) (a lo hi : Int) (K : Bool → Option R) : f66 k a lo hi K = K (inB a lo hi) := by
  rw [f66_def]
  obtain ⟨k, rfl⟩ := succ_of hk
  simp only [f66d, inB]
  cases decide (lo ≤ a) <;> rfl
theorem f72_eq {k : Nat} (hk : 0 < k) (a lo hi : Int) (K : Bool → Option R) : f72 k a lo hi K = K (inB a lo hi) := by
  rw [f72_def]
  obtain ⟨k, rfl⟩ := succ_of hk
  simp only [f72d, inB, ge_iff_le]
  cases decide (lo ≤ a) <;> rfl
theorem f105_eq {k : Nat} (hk : 0 < k) (a lo hi : Int) (K : Bool → Option R) : f105 k a lo hi K = K (inB a lo hi) := by
  rw [f105_def]
  obtain ⟨k, rfl⟩ := succ_of hk
  simp only [f105d, inB, ge_iff_le]
  cases decide (lo ≤ a) <;> rfl

/-! sums -/
def sm : List Int → Nat → Int
  | [], _ => 0
  | b :: l, i => b * 2 ^ (24 - 8 * (i % 4)) + sm l (i + 1)
def U8 (l : List Int) : Prop := ∀ x ∈ l, 0 ≤ x ∧ x ≤ 255
theorem pw_le (i : Nat) : (1 : Int) ≤ 2 ^ (24 - 8 * (i % 4)) ∧ (2 : Int) ^ (24 - 8 * (i % 4)) ≤ 16777216 := by
  have h : i % 4 = 0 ∨ i % 4 = 1 ∨ i % 4 = 2 ∨ i % 4 = 3 := by omega
  rcases h with h | h | h | h <;> rw [h] <;> decide
theorem term_le {b : Int} (hb : 0 ≤ b ∧ b ≤ 255) (i : Nat) : 0 ≤ b * 2 ^ (24 - 8 * (i % 4)) ∧ b * 2 ^ (24 - 8 * (i % 4)) ≤ 4294967296 := by
  obtain ⟨h1, h2⟩ := pw_le i
  refine ⟨Int.mul_nonneg hb.1 (by omega), ?_⟩
  have := Int.mul_le_mul hb.2 h2 (by omega) (by omega)
  omega
theorem sm_le : ∀ {l : List Int} (hl : U8 l) (i : Nat), 0 ≤ sm l i ∧ sm l i ≤ l.length * 4294967296
  | [], _, _ => by simp [sm]
  | b :: l, hl, i => by
    have h1 := term_le (hl b (by simp)) i
    have h2 := sm_le (fun x hx => hl x (by simp [hx]) : U8 l) (i + 1)
    simp only [sm, List.length_cons]
    omega
theorem sh_eq (i : Nat) (hi : i < 100001) : IntKind.i64.wrap (24 - IntKind.i64.wrap (8 * Int.tmod (i : Int) 4)) = ((24 - 8 * (i % 4) : Nat) : Int) := by
  rw [tmod_nn (by omega), wi (n := 8 * ((i : Int) % 4)) (by omega) (by omega), wi (by omega) (by omega)]
  omega
theorem f64_loop (k : Nat) (x0 : Int → Option R) (l : List Int) (hl : (l.length : Int) ≤ 100000) (hu : U8 l) : ∀ (d f i : Nat) (v : Int), i + d = l.length → d < f → 0 ≤ v → v ≤ i * 4294967296 →
    f64_0d k x0 l (l.length : Int) f v (i : Int) = x0 (v + sm (l.drop i) i) := by
  intro d
  induction d with
  | zero =>
    intro f i v hi hf hv0 hv1
    obtain ⟨f, rfl⟩ := succ_of hf
    have h1 : decide ((i : Int) < (l.length : Int)) = false := by simp only [decide_eq_false_iff_not]; omega
    simp only [f64_0d, f64_0b, h1, cond_false]
    rw [List.drop_of_length_le (by omega)]
    simp [sm]
  | succ d ih =>
    intro f i v hi hf hv0 hv1
    obtain ⟨f, rfl⟩ := succ_of hf
    have h1 : decide ((i : Int) < (l.length : Int)) = true := by simp only [decide_eq_true_eq]; omega
    have h0 : decide ((0 : Int) ≤ (i : Int)) = true := by simp
    have hw : IntKind.i64.wrap ((i : Int) + 1) = ((i + 1 : Nat) : Int) := by rw [wi (by omega) (by omega)]; omega
    have hli : i < l.length := by omega
    have hb := hu l[i] (List.getElem_mem hli)
    have ht := term_le hb i
    have hs : decide ((0 : Int) ≤ ((24 - 8 * (i % 4) : Nat) : Int)) = true := by simp
    have hm : min (24 - 8 * (i % 4)) 64 = 24 - 8 * (i % 4) := by omega
    simp only [f64_0d, f64_0b, h1, h0, cond_true, Bool.and_self, Int.toNat_natCast, hw, sh_eq i (by omega), hs, hm]
    rw [getD_in hli, wi (n := l[i]) (by omega) (by omega), wi (n := l[i] * 2 ^ (24 - 8 * (i % 4))) (by omega) (by omega), wi (n := v + _) (by omega) (by omega),
      ih f (i + 1) _ (by omega) (by omega) (by omega) (by omega), List.drop_eq_getElem_cons hli]
    simp only [sm]
    rw [Int.add_assoc]
def sumF (l : List Int) : Int × Int := if 100000 < l.length then (0, 2) else (sm l 0 % 4294967296, 0)
theorem f18_eq {k : Nat} {l : List Int} (hk : l.length + 3 < k) (hu : U8 l) (K : Int → Int → Option R) : f18 k l K = K (sumF l).1 (sumF l).2 := by
  rw [f18_def]
  obtain ⟨k, rfl⟩ := succ_of hk
  obtain ⟨k, rfl⟩ := succ_of (show l.length + 1 < k by omega)
  simp only [f18d, sumF]
  by_cases h : 100000 < l.length
  · have h1 : decide ((l.length : Int) > 100000) = true := by simp only [decide_eq_true_eq]; omega
    simp only [h1, h, cond_true, if_true]
  · have h1 : decide ((l.length : Int) > 100000) = false := by simp only [decide_eq_false_iff_not]; omega
    have h2 := sm_le hu 0
    simp only [h1, h, cond_false, if_false, f64_def, f64d, f64_0_def]
    refine (f64_loop k _ l (by omega) hu l.length k 0 0 (by omega) (by omega) (by omega) (by omega)).trans ?_
    have := mask_i64 (sm l 0) 32 (by omega) h2.1 (by omega)
    simp only [List.drop_zero, Int.zero_add]
    rw [show (4294967295 : Int) = 2 ^ 32 - 1 from rfl, this]
    rfl
/-! names -/
theorem dlt (a b : Int) : decide (a < b) = !decide (b ≤ a) := by by_cases h : b ≤ a <;> simp [h] <;> omega
theorem dgt (a b : Int) : decide (a > b) = !decide (a ≤ b) := by by_cases h : a ≤ b <;> simp [h] <;> omega
def charOk (i : Nat) (c : Int) : Bool := (decide (97 ≤ c) && decide (c ≤ 122)) || (decide (i ≠ 0) && (decide (c = 45) || decide (c = 95) || (decide (48 ≤ c) && decide (c ≤ 57))))
def nameF : List Int → Nat → Bool
  | [], _ => true
  | c :: l, i => charOk i c && nameF l (i + 1)
noncomputable def nameOk (s : ByteArray) : Bool := decide (s.size ≠ 0) && decide (s.size ≤ 40) && nameF (bytesOf s) 0
theorem bytesOf_len (s : ByteArray) : (bytesOf s).length = s.size := by simp only [bytesOf, List.length_map, Array.length_toList]; rfl
theorem f68_loop (k : Nat) (K : Bool → Option R) (x0 : Option R) (s : ByteArray) (hs : s.size < 4611686018427387904) : ∀ (d f i : Nat), i + d = s.size → d < f →
    f68_0d k K x0 s (s.size : Int) f (i : Int) = bif nameF ((bytesOf s).drop i) i then x0 else K false
  | d, 0, i, _, h => absurd h (Nat.not_lt_zero _)
  | 0, f + 1, i, hi, _ => by
    have h1 : decide ((i : Int) < (s.size : Int)) = false := by simp only [decide_eq_false_iff_not]; omega
    simp only [f68_0d, f68_0b, h1, cond_false]
    rw [List.drop_of_length_le (by rw [bytesOf_len]; omega)]
    rfl
  | d + 1, f + 1, i, hi, hf => by
    have h1 : decide ((i : Int) < (s.size : Int)) = true := by simp only [decide_eq_true_eq]; omega
    have h0 : decide ((0 : Int) ≤ (i : Int)) = true := by simp
    have hw : IntKind.i64.wrap ((i : Int) + 1) = ((i + 1 : Nat) : Int) := by rw [wi (by omega) (by omega)]; omega
    have hli : i < (bytesOf s).length := by rw [bytesOf_len]; omega
    have ih := f68_loop k K x0 s hs d f (i + 1) (by omega) (by omega)
    simp only [f68_0d, f68_0b]
    generalize hc : (bytesOf s).getD (Int.toNat (i : Int)) 0 = c
    have hc' : (bytesOf s)[i] = c := by rw [← hc, Int.toNat_natCast, getD_in hli]
    simp only [h1, h0, cond_true, Bool.and_self, hw, ih]
    rw [List.drop_eq_getElem_cons hli, hc']
    simp only [nameF]
    generalize nameF ((bytesOf s).drop (i + 1)) (i + 1) = z
    have hz : ((i : Int) == 0) = decide (i = 0) := by rw [beq_dec]; simp
    simp only [charOk, hz, beq_dec, bne_dec, dlt, dgt, ge_iff_le]
    by_cases e1 : 97 ≤ c <;> by_cases e2 : c ≤ 122 <;> by_cases e3 : i = 0 <;> by_cases e4 : c = 45 <;> by_cases e5 : c = 95 <;> by_cases e6 : 48 ≤ c <;> by_cases e7 : c ≤ 57 <;>
      first | (exfalso; omega) | simp [e1, e2, e3, e4, e5, e6, e7]
theorem f74_loop (k : Nat) (K : Bool → Option R) (x0 : Option R) (s : ByteArray) (hs : s.size < 4611686018427387904) : ∀ (d f i : Nat), i + d = s.size → d < f →
    f74_0d k K x0 s f (i : Int) = bif nameF ((bytesOf s).drop i) i then x0 else K false
  | d, 0, i, _, h => absurd h (Nat.not_lt_zero _)
  | 0, f + 1, i, hi, _ => by
    have h1 : decide ((i : Int) < (s.size : Int)) = false := by simp only [decide_eq_false_iff_not]; omega
    simp only [f74_0d, f74_0b, h1, cond_false]
    rw [List.drop_of_length_le (by rw [bytesOf_len]; omega)]
    rfl
  | d + 1, f + 1, i, hi, hf => by
    have h1 : decide ((i : Int) < (s.size : Int)) = true := by simp only [decide_eq_true_eq]; omega
    have h0 : decide ((0 : Int) ≤ (i : Int)) = true := by simp
    have hw : IntKind.i64.wrap ((i : Int) + 1) = ((i + 1 : Nat) : Int) := by rw [wi (by omega) (by omega)]; omega
    have hli : i < (bytesOf s).length := by rw [bytesOf_len]; omega
    have ih := f74_loop k K x0 s hs d f (i + 1) (by omega) (by omega)
    simp only [f74_0d, f74_0b]
    generalize hc : (bytesOf s).getD (Int.toNat (i : Int)) 0 = c
    have hc' : (bytesOf s)[i] = c := by rw [← hc, Int.toNat_natCast, getD_in hli]
    simp only [h1, h0, cond_true, Bool.and_self, hw, ih]
    rw [List.drop_eq_getElem_cons hli, hc']
    simp only [nameF]
    generalize nameF ((bytesOf s).drop (i + 1)) (i + 1) = z
    have hz : ((i : Int) == 0) = decide (i = 0) := by rw [beq_dec]; simp
    simp only [charOk, hz, beq_dec, bne_dec, dlt, dgt, ge_iff_le]
    by_cases e1 : 97 ≤ c <;> by_cases e2 : c ≤ 122 <;> by_cases e3 : i = 0 <;> by_cases e4 : c = 45 <;> by_cases e5 : c = 95 <;> by_cases e6 : 48 ≤ c <;> by_cases e7 : c ≤ 57 <;>
      first | (exfalso; omega) | simp [e1, e2, e3, e4, e5, e6, e7]
def emp (s : ByteArray) : Bool := s.toList == (⟨#[]⟩ : ByteArray).toList
theorem emp_size (s : ByteArray) : emp s = decide (s.size = 0) := by
  simp only [emp, ByteArray.toList_eq]
  have h1 : s.data.toList.length = s.size := rfl
  cases h : s.data.toList with
  | nil => rw [h] at h1; have : s.size = 0 := h1.symm; rw [this]; rfl
  | cons a l => rw [h] at h1; have : s.size ≠ 0 := by rw [← h1]; simp
                simp only [this, decide_false]; rfl
theorem f68_eq {k : Nat} {s : ByteArray} (hk : s.size + 1 < k) (hs : s.size < 4611686018427387904) (K : Bool → Option R) : f68 k s K = K (nameOk s) := by
  rw [f68_def]
  obtain ⟨k, rfl⟩ := succ_of hk
  have he : (s.toList == (⟨#[]⟩ : ByteArray).toList) = decide (s.size = 0) := emp_size s
  simp only [f68d, he, nameOk, f68_0_def]
  have h := f68_loop k K (K true) s hs s.size k 0 (by omega) (by omega)
  rw [show ((0 : Nat) : Int) = 0 from rfl] at h
  rw [h]
  have hg : ∀ n : Nat, decide ((n : Int) > 40) = !decide (n ≤ 40) := by intro n; rw [Bool.eq_iff_iff]; simp only [Bool.not_eq_true', decide_eq_true_eq, decide_eq_false_iff_not]; omega
  have hne : decide (s.size ≠ 0) = !decide (s.size = 0) := by by_cases h : s.size = 0 <;> simp only [h, ne_eq, not_true_eq_false, not_false_eq_true, decide_true, decide_false, Bool.not_true, Bool.not_false]
  rw [hg, hne, List.drop_zero]
  cases decide (s.size = 0) <;> cases decide (s.size ≤ 40) <;> cases nameF (bytesOf s) 0 <;> rfl
theorem f74_eq {k : Nat} {s : ByteArray} (hk : s.size + 1 < k) (hs : s.size < 4611686018427387904) (K : Bool → Option R) : f74 k s K = K (nameOk s) := by
  rw [f74_def]
  obtain ⟨k, rfl⟩ := succ_of hk
  simp only [f74d, nameOk, f74_0_def, f105_eq (show 0 < k by omega)]
  obtain ⟨k, rfl⟩ := succ_of (show 0 < k by omega)
  refine (f74_loop (k + 1) K _ s hs s.size (k + 1) 0 (by omega) (by omega)).trans ?_
  rw [List.drop_zero]
  have hi : inB (s.size : Int) 1 40 = (decide (s.size ≠ 0) && decide (s.size ≤ 40)) := by
    rw [Bool.eq_iff_iff, inB_iff]; simp only [ne_eq, Bool.and_eq_true, decide_eq_true_eq]; omega
  rw [hi]
  cases nameF (bytesOf s) 0 <;> simp

/-! kit.First -/
def firstF : List Int → Int
  | [] => 0
  | x :: l => if x = 0 then firstF l else x
theorem first_loop (k : Nat) (K : Int → Option R) (l : List Int) (hl : l.length < 4611686018427387904) : ∀ (d f i : Nat), i + d = l.length → d < f →
    f69_0d k K (K 0) l (l.length : Int) f (i : Int) = K (firstF (l.drop i))
  | d, 0, i, _, h => absurd h (Nat.not_lt_zero _)
  | 0, f + 1, i, hi, _ => by
    have h1 : decide ((i : Int) < (l.length : Int)) = false := by simp only [decide_eq_false_iff_not]; omega
    simp only [f69_0d, f69_0b, h1, cond_false]
    rw [List.drop_of_length_le (by omega)]
    rfl
  | d + 1, f + 1, i, hi, _ => by
    have h1 : decide ((i : Int) < (l.length : Int)) = true := by simp only [decide_eq_true_eq]; omega
    have h0 : decide ((0 : Int) ≤ (i : Int)) = true := by simp
    have hw : IntKind.i64.wrap ((i : Int) + 1) = ((i + 1 : Nat) : Int) := by rw [wi (by omega) (by omega)]; omega
    have hli : i < l.length := by omega
    simp only [f69_0d, f69_0b, h1, h0, cond_true, Bool.and_self, Int.toNat_natCast, hw]
    rw [getD_in hli, List.drop_eq_getElem_cons hli, bne_dec]
    by_cases e : l[i] = 0
    · simp only [e, decide_true, Bool.not_true, cond_false, firstF, if_true]
      exact first_loop k K l hl d f (i + 1) (by omega) (by omega)
    · simp only [e, decide_false, Bool.not_false, cond_true, firstF, if_false]
theorem f69_eq {k : Nat} {l : List Int} (hk : l.length + 1 < k) (hl : l.length < 4611686018427387904) (K : Int → Option R) : f69 k l K = K (firstF l) := by
  rw [f69_def]
  obtain ⟨k, rfl⟩ := succ_of hk
  simp only [f69d, f69_0_def]
  exact (first_loop k K l hl l.length k 0 (by omega) (by omega)).trans (by simp)
theorem f70_eq {k : Nat} (hk : 1 < k) (a lo hi : Int) (K : Int → Option R) : f70 k a lo hi K = K (if inB a lo hi then 0 else 1) := by
  rw [f70_def]
  obtain ⟨k, rfl⟩ := succ_of hk
  simp only [f70d, f66_eq (show 0 < k by omega)]
  cases inB a lo hi <;> rfl

/-! what a letter may hold -/
abbrev Rg := Int × (Int × Unit)
def extra (kind : Int) (e : Bool) (a b c : Int) (m : Nat) (n : Nat) (f : Bool) : Bool :=
  !((decide (kind = 1) || e) && (decide (kind = 1) || decide (kind = 3) || (decide (a = 0) && decide (b = 0))) && (decide (kind = 2) || (decide (c = 0) && decide (m = 0))) && (decide (kind = 4) || decide (n = 0)) && (decide (kind = 5) || !f))
theorem lenpos (n : Nat) : decide ((n : Int) > 0) = !decide (n = 0) := by by_cases h : n = 0 <;> simp [h]; omega
theorem leneq (n : Nat) : decide ((n : Int) = 0) = decide (n = 0) := by simp
theorem f67_eq {k : Nat} (hk : 0 < k) (kind num : Int) (s : ByteArray) (a b c : Int) (l : List Int) (rs : List Rg) (f : Bool) (K : Bool → Option R) :
    f67 k kind num s a b c l rs f K = K (extra kind (emp s) a b c l.length rs.length f) := by
  rw [f67_def]
  obtain ⟨k, rfl⟩ := succ_of hk
  have e0 : (((⟨#[]⟩ : ByteArray)).toList == (⟨#[]⟩ : ByteArray).toList) = true := emp_size ⟨#[]⟩
  have es : (s.toList == (⟨#[]⟩ : ByteArray).toList) = emp s := rfl
  simp only [f67d, f67_1000005_def, f67_1000007_def, f67_1000009_def, f67_1000011_def, f67_1000013_def, f67_1000005d, f67_1000007d, f67_1000009d, f67_1000011d, f67_1000013d, beq_dec, bne_dec, lenpos, extra]
  by_cases h1 : kind = 1
  · subst h1
    simp only [decide_true, cond_true, e0, es]
    cases decide (a = 0) <;> cases decide (b = 0) <;> cases decide (c = 0) <;> cases decide (l.length = 0) <;> cases decide (rs.length = 0) <;> cases f <;> simp
  by_cases h2 : kind = 2
  · subst h2
    simp only [decide_true, cond_true, e0, es]
    cases emp s <;> cases decide (a = 0) <;> cases decide (b = 0) <;> cases decide (c = 0) <;> cases decide (l.length = 0) <;> cases decide (rs.length = 0) <;> cases f <;> simp
  by_cases h3 : kind = 3
  · subst h3
    simp only [decide_true, cond_true, e0, es]
    cases emp s <;> cases decide (a = 0) <;> cases decide (b = 0) <;> cases decide (c = 0) <;> cases decide (l.length = 0) <;> cases decide (rs.length = 0) <;> cases f <;> simp
  by_cases h4 : kind = 4
  · subst h4
    simp only [decide_true, cond_true, e0, es]
    cases emp s <;> cases decide (a = 0) <;> cases decide (b = 0) <;> cases decide (c = 0) <;> cases decide (l.length = 0) <;> cases decide (rs.length = 0) <;> cases f <;> simp
  by_cases h5 : kind = 5
  · subst h5
    simp only [decide_true, cond_true, e0, es]
    cases emp s <;> cases decide (a = 0) <;> cases decide (b = 0) <;> cases decide (c = 0) <;> cases decide (l.length = 0) <;> cases decide (rs.length = 0) <;> cases f <;> simp
  simp only [h1, h2, h3, h4, h5, decide_false, cond_false, e0, es]
  cases emp s <;> cases decide (a = 0) <;> cases decide (b = 0) <;> cases decide (c = 0) <;> cases decide (l.length = 0) <;> cases decide (rs.length = 0) <;> cases f <;> simp
theorem f73_eq {k : Nat} (hk : 0 < k) (kind num : Int) (s : ByteArray) (a b c : Int) (l : List Int) (rs : List Rg) (f : Bool) (K : Bool → Option R) :
    f73 k kind num s a b c l rs f K = K (!extra kind (emp s) a b c l.length rs.length f) := by
  rw [f73_def]
  obtain ⟨k, rfl⟩ := succ_of hk
  have es : (s.toList == (⟨#[]⟩ : ByteArray).toList) = emp s := rfl
  simp only [f73d, beq_dec, bne_dec, leneq, extra, es]
  generalize emp s = e, decide (a = 0) = x1, decide (b = 0) = x2, decide (c = 0) = x3, decide (l.length = 0) = x4, decide (rs.length = 0) = x5
  by_cases h1 : kind = 1
  · subst h1; cases e <;> cases x1 <;> cases x2 <;> cases x3 <;> cases x4 <;> cases x5 <;> cases f <;> rfl
  by_cases h2 : kind = 2
  · subst h2; cases e <;> cases x1 <;> cases x2 <;> cases x3 <;> cases x4 <;> cases x5 <;> cases f <;> rfl
  by_cases h3 : kind = 3
  · subst h3; cases e <;> cases x1 <;> cases x2 <;> cases x3 <;> cases x4 <;> cases x5 <;> cases f <;> rfl
  by_cases h4 : kind = 4
  · subst h4; cases e <;> cases x1 <;> cases x2 <;> cases x3 <;> cases x4 <;> cases x5 <;> cases f <;> rfl
  by_cases h5 : kind = 5
  · subst h5; cases e <;> cases x1 <;> cases x2 <;> cases x3 <;> cases x4 <;> cases x5 <;> cases f <;> rfl
  simp only [h1, h2, h3, h4, h5, decide_false]
  cases e <;> cases x1 <;> cases x2 <;> cases x3 <;> cases x4 <;> cases x5 <;> cases f <;> rfl
end Go.Proofs.Ytlcklflbhhnnhaa.PM

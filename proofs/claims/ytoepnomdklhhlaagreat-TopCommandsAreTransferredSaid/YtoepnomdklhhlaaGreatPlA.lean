/- Merged plain texts: PlL, PlLet, PlSend, PlSend2, PlRecv, PlRecv2, PlRecv3, PlSpan, PlSpan2, PlSpan3, PlPut, PlFill, PlTk, PlTk2, PlTk3. -/
import Derived.Test.YtoepnomdklhhlaaGreatPT
import Derived.Test.YtoepnomdklhhlaaGreatBt
import Derived.Test.YtoepnomdklhhlaaGreatSrtD
/- Plain laws of letters. -/
set_option linter.unusedSimpArgs false
set_option linter.unusedVariables false
namespace Go.Proofs.YtoepnomdklhhlaaGreat.PM
open Go Go.Proofs.YtoepnomdklhhlaaGreat.Bt
variable {R : Type}

theorem succ_of {k n : Nat} (h : n < k) : ∃ j, k = j + 1 := ⟨k - 1, by omega⟩
theorem beq_dec (a b : Int) : (a == b) = decide (a = b) := rfl
theorem bne_dec (a b : Int) : (a != b) = !decide (a = b) := rfl
theorem wi {n : Int} (h0 : -9223372036854775808 ≤ n) (h1 : n < 9223372036854775808) : IntKind.i64.wrap n = n := by rw [IntKind.wrap_i64]; omega
theorem tmod_nn {a b : Int} (h : 0 ≤ a) : Int.tmod a b = a % b := Int.tmod_eq_emod_of_nonneg h
theorem tdiv_nn {a b : Int} (h : 0 ≤ a) : Int.tdiv a b = a / b := Int.tdiv_eq_ediv_of_nonneg h
def inB (a lo hi : Int) : Bool := decide (lo ≤ a) && decide (a ≤ hi)
theorem inB_iff {a lo hi : Int} : inB a lo hi = true ↔ lo ≤ a ∧ a ≤ hi := by simp [inB]
theorem getD_in {α : Type} {l : List α} {i : Nat} {d : α} (h : i < l.length) : l.getD i d = l[i] := by rw [List.getD_eq_getElem?_getD, List.getElem?_eq_getElem h]; rfl

theorem f26_eq {k : Nat} (hk : 0 < k) (a lo hi : Int) (K : Bool → Option R) : f26 k a lo hi K = K (inB a lo hi) := by
  rw [f26_def]
  obtain ⟨k, rfl⟩ := succ_of hk
  simp only [f26d, inB]
  cases decide (lo ≤ a) <;> rfl
/-! sums -/
def sm : List Int → Nat → Int
  | [], _ => 0
  | b :: l, i => b * 2 ^ (24 - 8 * (i % 4)) + sm l (i + 1)
def U8 (l : List Int) : Prop := ∀ x ∈ l, 0 ≤ x ∧ x ≤ 255
theorem pw_le (i : Nat) : (1 : Int) ≤ 2 ^ (24 - 8 * (i % 4)) ∧ (2 : Int) ^ (24 - 8 * (i % 4)) ≤ 16777216 := by
  have h : i % 4 = 0 ∨ i % 4 = 1 ∨ i % 4 = 2 ∨ i % 4 = 3 := by omega
  rcases h with h | h | h | h <;> rw [h] <;> decide
theorem term_le {b : Int} (hb : 0 ≤ b ∧ b ≤ 255) (i : Nat) : 0 ≤ b * 2 ^ (24 - 8 * (i % 4)) ∧ b * 2 ^ (24 - 8 * (i % 4)) ≤ 4294967296 := by
  obtain ⟨h1, h2⟩ := pw_le i
  refine ⟨Int.mul_nonneg hb.1 (by omega), ?_⟩
  have := Int.mul_le_mul hb.2 h2 (by omega) (by omega)
  omega
theorem sm_le : ∀ {l : List Int} (hl : U8 l) (i : Nat), 0 ≤ sm l i ∧ sm l i ≤ l.length * 4294967296
  | [], _, _ => by simp [sm]
  | b :: l, hl, i => by
    have h1 := term_le (hl b (by simp)) i
    have h2 := sm_le (fun x hx => hl x (by simp [hx]) : U8 l) (i + 1)
    simp only [sm, List.length_cons]
    omega
theorem sh_eq (i : Nat) (hi : i < 100001) : IntKind.i64.wrap (24 - IntKind.i64.wrap (8 * Int.tmod (i : Int) 4)) = ((24 - 8 * (i % 4) : Nat) : Int) := by
  rw [tmod_nn (by omega), wi (n := 8 * ((i : Int) % 4)) (by omega) (by omega), wi (by omega) (by omega)]
  omega
theorem f96_loop (k : Nat) (x0 : Int → Option R) (l : List Int) (hl : (l.length : Int) ≤ 100000) (hu : U8 l) : ∀ (d f i : Nat) (v : Int), i + d = l.length → d < f → 0 ≤ v → v ≤ i * 4294967296 →
    f96_0d k x0 l (l.length : Int) f v (i : Int) = x0 (v + sm (l.drop i) i) := by
  intro d
  induction d with
  | zero =>
    intro f i v hi hf hv0 hv1
    obtain ⟨f, rfl⟩ := succ_of hf
    have h1 : decide ((i : Int) < (l.length : Int)) = false := by simp only [decide_eq_false_iff_not]; omega
    simp only [f96_0d, f96_0b, h1, cond_false]
    rw [List.drop_of_length_le (by omega)]
    simp [sm]
  | succ d ih =>
    intro f i v hi hf hv0 hv1
    obtain ⟨f, rfl⟩ := succ_of hf
    have h1 : decide ((i : Int) < (l.length : Int)) = true := by simp only [decide_eq_true_eq]; omega
    have h0 : decide ((0 : Int) ≤ (i : Int)) = true := by simp
    have hw : IntKind.i64.wrap ((i : Int) + 1) = ((i + 1 : Nat) : Int) := by rw [wi (by omega) (by omega)]; omega
    have hli : i < l.length := by omega
    have hb := hu l[i] (List.getElem_mem hli)
    have ht := term_le hb i
    have hs : decide ((0 : Int) ≤ ((24 - 8 * (i % 4) : Nat) : Int)) = true := by simp
    have hm : min (24 - 8 * (i % 4)) 64 = 24 - 8 * (i % 4) := by omega
    simp only [f96_0d, f96_0b, h1, h0, cond_true, Bool.and_self, Int.toNat_natCast, hw, sh_eq i (by omega), hs, hm]
    rw [getD_in hli, wi (n := l[i]) (by omega) (by omega), wi (n := l[i] * 2 ^ (24 - 8 * (i % 4))) (by omega) (by omega), wi (n := v + _) (by omega) (by omega),
      ih f (i + 1) _ (by omega) (by omega) (by omega) (by omega), List.drop_eq_getElem_cons hli]
    simp only [sm]
    rw [Int.add_assoc]
def sumF (l : List Int) : Int × Int := if 100000 < l.length then (0, 2) else (sm l 0 % 4294967296, 0)
/-! names -/
theorem dlt (a b : Int) : decide (a < b) = !decide (b ≤ a) := by by_cases h : b ≤ a <;> simp [h] <;> omega
theorem dgt (a b : Int) : decide (a > b) = !decide (a ≤ b) := by by_cases h : a ≤ b <;> simp [h] <;> omega
def charOk (i : Nat) (c : Int) : Bool := (decide (97 ≤ c) && decide (c ≤ 122)) || (decide (i ≠ 0) && (decide (c = 45) || decide (c = 95) || (decide (48 ≤ c) && decide (c ≤ 57))))
def nameF : List Int → Nat → Bool
  | [], _ => true
  | c :: l, i => charOk i c && nameF l (i + 1)
noncomputable def nameOk (s : ByteArray) : Bool := decide (s.size ≠ 0) && decide (s.size ≤ 40) && nameF (bytesOf s) 0
theorem bytesOf_len (s : ByteArray) : (bytesOf s).length = s.size := by simp only [bytesOf, List.length_map, Array.length_toList]; rfl
theorem f92_loop (k : Nat) (K : Bool → Option R) (x0 : Option R) (s : ByteArray) (hs : s.size < 4611686018427387904) : ∀ (d f i : Nat), i + d = s.size → d < f →
    f92_0d k K x0 s (s.size : Int) f (i : Int) = bif nameF ((bytesOf s).drop i) i then x0 else K false
  | d, 0, i, _, h => absurd h (Nat.not_lt_zero _)
  | 0, f + 1, i, hi, _ => by
    have h1 : decide ((i : Int) < (s.size : Int)) = false := by simp only [decide_eq_false_iff_not]; omega
    simp only [f92_0d, f92_0b, h1, cond_false]
    rw [List.drop_of_length_le (by rw [bytesOf_len]; omega)]
    rfl
  | d + 1, f + 1, i, hi, hf => by
    have h1 : decide ((i : Int) < (s.size : Int)) = true := by simp only [decide_eq_true_eq]; omega
    have h0 : decide ((0 : Int) ≤ (i : Int)) = true := by simp
    have hw : IntKind.i64.wrap ((i : Int) + 1) = ((i + 1 : Nat) : Int) := by rw [wi (by omega) (by omega)]; omega
    have hli : i < (bytesOf s).length := by rw [bytesOf_len]; omega
    have ih := f92_loop k K x0 s hs d f (i + 1) (by omega) (by omega)
    simp only [f92_0d, f92_0b]
    generalize hc : (bytesOf s).getD (Int.toNat (i : Int)) 0 = c
    have hc' : (bytesOf s)[i] = c := by rw [← hc, Int.toNat_natCast, getD_in hli]
    simp only [h1, h0, cond_true, Bool.and_self, hw, ih]
    rw [List.drop_eq_getElem_cons hli, hc']
    simp only [nameF]
    generalize nameF ((bytesOf s).drop (i + 1)) (i + 1) = z
    have hz : ((i : Int) == 0) = decide (i = 0) := by rw [beq_dec]; simp
    simp only [charOk, hz, beq_dec, bne_dec, dlt, dgt, ge_iff_le]
    by_cases e1 : 97 ≤ c <;> by_cases e2 : c ≤ 122 <;> by_cases e3 : i = 0 <;> by_cases e4 : c = 45 <;> by_cases e5 : c = 95 <;> by_cases e6 : 48 ≤ c <;> by_cases e7 : c ≤ 57 <;>
      first | (exfalso; omega) | simp [e1, e2, e3, e4, e5, e6, e7]
def emp (s : ByteArray) : Bool := s.toList == (⟨#[]⟩ : ByteArray).toList
theorem emp_size (s : ByteArray) : emp s = decide (s.size = 0) := by
  simp only [emp, ByteArray.toList_eq]
  have h1 : s.data.toList.length = s.size := rfl
  cases h : s.data.toList with
  | nil => rw [h] at h1; have : s.size = 0 := h1.symm; rw [this]; rfl
  | cons a l => rw [h] at h1; have : s.size ≠ 0 := by rw [← h1]; simp
                simp only [this, decide_false]; rfl
theorem f92_eq {k : Nat} {s : ByteArray} (hk : s.size + 1 < k) (hs : s.size < 4611686018427387904) (K : Bool → Option R) : f92 k s K = K (nameOk s) := by
  rw [f92_def]
  obtain ⟨k, rfl⟩ := succ_of hk
  have he : (s.toList == (⟨#[]⟩ : ByteArray).toList) = decide (s.size = 0) := emp_size s
  simp only [f92d, he, nameOk, f92_0_def]
  have h := f92_loop k K (K true) s hs s.size k 0 (by omega) (by omega)
  rw [show ((0 : Nat) : Int) = 0 from rfl] at h
  rw [h]
  have hg : ∀ n : Nat, decide ((n : Int) > 40) = !decide (n ≤ 40) := by intro n; rw [Bool.eq_iff_iff]; simp only [Bool.not_eq_true', decide_eq_true_eq, decide_eq_false_iff_not]; omega
  have hne : decide (s.size ≠ 0) = !decide (s.size = 0) := by by_cases h : s.size = 0 <;> simp only [h, ne_eq, not_true_eq_false, not_false_eq_true, decide_true, decide_false, Bool.not_true, Bool.not_false]
  rw [hg, hne, List.drop_zero]
  cases decide (s.size = 0) <;> cases decide (s.size ≤ 40) <;> cases nameF (bytesOf s) 0 <;> rfl
/-! kit.First -/
def firstF : List Int → Int
  | [] => 0
  | x :: l => if x = 0 then firstF l else x
theorem first_loop (k : Nat) (K : Int → Option R) (l : List Int) (hl : l.length < 4611686018427387904) : ∀ (d f i : Nat), i + d = l.length → d < f →
    f31_0d k K (K 0) l (l.length : Int) f (i : Int) = K (firstF (l.drop i))
  | d, 0, i, _, h => absurd h (Nat.not_lt_zero _)
  | 0, f + 1, i, hi, _ => by
    have h1 : decide ((i : Int) < (l.length : Int)) = false := by simp only [decide_eq_false_iff_not]; omega
    simp only [f31_0d, f31_0b, h1, cond_false]
    rw [List.drop_of_length_le (by omega)]
    rfl
  | d + 1, f + 1, i, hi, _ => by
    have h1 : decide ((i : Int) < (l.length : Int)) = true := by simp only [decide_eq_true_eq]; omega
    have h0 : decide ((0 : Int) ≤ (i : Int)) = true := by simp
    have hw : IntKind.i64.wrap ((i : Int) + 1) = ((i + 1 : Nat) : Int) := by rw [wi (by omega) (by omega)]; omega
    have hli : i < l.length := by omega
    simp only [f31_0d, f31_0b, h1, h0, cond_true, Bool.and_self, Int.toNat_natCast, hw]
    rw [getD_in hli, List.drop_eq_getElem_cons hli, bne_dec]
    by_cases e : l[i] = 0
    · simp only [e, decide_true, Bool.not_true, cond_false, firstF, if_true]
      exact first_loop k K l hl d f (i + 1) (by omega) (by omega)
    · simp only [e, decide_false, Bool.not_false, cond_true, firstF, if_false]
theorem f31_eq {k : Nat} {l : List Int} (hk : l.length + 1 < k) (hl : l.length < 4611686018427387904) (K : Int → Option R) : f31 k l K = K (firstF l) := by
  rw [f31_def]
  obtain ⟨k, rfl⟩ := succ_of hk
  simp only [f31d, f31_0_def]
  exact (first_loop k K l hl l.length k 0 (by omega) (by omega)).trans (by simp)
theorem f32_eq {k : Nat} (hk : 1 < k) (a lo hi : Int) (K : Int → Option R) : f32 k a lo hi K = K (if inB a lo hi then 0 else 1) := by
  rw [f32_def]
  obtain ⟨k, rfl⟩ := succ_of hk
  simp only [f32d, f26_eq (show 0 < k by omega)]
  cases inB a lo hi <;> rfl

/-! what a letter may hold -/
abbrev Rg := Int × (Int × Unit)
def extra (kind : Int) (e : Bool) (a b c : Int) (m : Nat) (n : Nat) (f : Bool) : Bool :=
  !((decide (kind = 1) || e) && (decide (kind = 1) || decide (kind = 3) || (decide (a = 0) && decide (b = 0))) && (decide (kind = 2) || (decide (c = 0) && decide (m = 0))) && (decide (kind = 4) || decide (n = 0)) && (decide (kind = 5) || !f))
theorem lenpos (n : Nat) : decide ((n : Int) > 0) = !decide (n = 0) := by by_cases h : n = 0 <;> simp [h]; omega
theorem leneq (n : Nat) : decide ((n : Int) = 0) = decide (n = 0) := by simp
end Go.Proofs.YtoepnomdklhhlaaGreat.PM
/- Plain laws of letters: ranges, letters, receivers' figures. -/
set_option linter.unusedSimpArgs false
set_option linter.unusedVariables false
namespace Go.Proofs.YtoepnomdklhhlaaGreat.PM
open Go Go.Proofs.YtoepnomdklhhlaaGreat.Bt
variable {R : Type}

/-! ranges -/
def rgF (lim : Int) : Option Int → List Rg → Int
  | _, [] => 0
  | p, x :: l => if x.1 < 0 then 1 else if x.2.1 > lim then 1 else if x.2.1 ≤ x.1 then 13 else if (match p with | some e => decide (x.1 ≤ e) | none => false) then 8 else rgF lim (some x.2.1) l
def before (l : List Rg) (i : Nat) : Option Int := if i = 0 then none else some (l.getD (i - 1) (0, (0, ()))).2.1
theorem before_succ {l : List Rg} {i : Nat} (h : i < l.length) : before l (i + 1) = some (l[i]).2.1 := by
  simp only [before, Nat.add_one_ne_zero, if_false, Nat.add_sub_cancel]
  rw [getD_in h]
def chkRgs (l : List Rg) (lim : Int) : Int := if inB lim 0 100000 = false then 1 else if 2000 < l.length then 2 else rgF lim none l
/-! the beginning of a list of ranges -/
def headF (l : List Rg) : Bool := match l with | [] => false | x :: _ => decide (x.1 = -1) && decide (x.2.1 = 0)
def cutF (l : List Rg) : List Rg := bif headF l then l.drop 1 else l
theorem f129_eq {k : Nat} (hk : 1 < k) (l : List Rg) (K : List Rg → Bool → Option R) : f129 k l K = K (cutF l) (headF l) := by
  rw [f129_def]
  obtain ⟨k, rfl⟩ := succ_of hk
  obtain ⟨k, rfl⟩ := succ_of (show 0 < k by omega)
  simp only [f129d, f130_def, f130d]
  cases l with
  | nil => simp [cutF, headF]
  | cons x l =>
    have h1 : decide (((x :: l).length : Int) > 0) = true := by simp only [decide_eq_true_eq, List.length_cons]; omega
    have h2 : decide (0 < ((x :: l).length : Int)) = true := by simp only [decide_eq_true_eq, List.length_cons]; omega
    have h3 : decide (1 ≤ ((x :: l).length : Int)) = true := by simp only [decide_eq_true_eq, List.length_cons]; omega
    simp only [h1, h2, h3, cond_true, cutF, headF, beq_dec, List.getD_cons_zero, Bool.and_true, beq_self_eq_true]
    cases decide (x.1 = -1) && decide (x.2.1 = 0) <;> rfl
theorem cutF_len (l : List Rg) : (cutF l).length ≤ l.length := by
  unfold cutF
  cases headF l <;> simp

/-! a letter -/
noncomputable def chkLetter (kind num : Int) (s : ByteArray) (a b c : Int) (l : List Int) (rs : List Rg) (f : Bool) : Int :=
  if inB kind 1 6 = false then 4 else if inB num 0 65535 = false then 1 else if extra kind (emp s) a b c l.length rs.length f = true then 3
  else if kind = 1 ∧ nameOk s = false then 5
  else if kind = 1 ∨ kind = 3 then (if inB a 0 100000 = true ∧ inB b 0 4294967295 = true then 0 else 1)
  else if kind = 2 then (if inB c 0 100000 = false then 1 else if l.length = 0 then 13 else if 4096 < l.length then 2 else if c + l.length > 100000 then 2 else 0)
  else if kind = 4 then (if rs.length = 0 then 9 else chkRgs (cutF rs) 100000) else 0
theorem first2 (p q : Bool) : firstF [if p then 0 else 1, if q then 0 else 1] = if p = true ∧ q = true then 0 else 1 := by cases p <;> cases q <;> rfl
theorem d4096 (n : Nat) : decide ((n : Int) > 4096) = decide (4096 < n) := by rw [Bool.eq_iff_iff]; simp only [decide_eq_true_eq]; omega
def chkFig (a b c d e : Int) : Int := if inB a 1 4096 && inB b 1 1000000 && inB c 1 100 && inB d 1 1000000 && inB e 0 50 then 0 else 1
theorem f24_eq {k : Nat} (hk : 1 < k) (a b c d e : Int) (K : Int → Option R) : f24 k a b c d e K = K (chkFig a b c d e) := by
  rw [f24_def]
  obtain ⟨k, rfl⟩ := succ_of hk
  simp only [f24d, f26_eq (show 0 < k by omega), chkFig]
  cases inB a 1 4096 <;> cases inB b 1 1000000 <;> cases inB c 1 100 <;> cases inB d 1 1000000 <;> cases inB e 0 50 <;> rfl
end Go.Proofs.YtoepnomdklhhlaaGreat.PM
/- Plain laws of senders. -/
set_option linter.unusedSimpArgs false
set_option linter.unusedVariables false
namespace Go.Proofs.YtoepnomdklhhlaaGreat.PM
open Go Go.Proofs.YtoepnomdklhhlaaGreat.Bt
variable {R : Type}

theorem LIM1 : LIM 1 = 140737488355328 := by simp [LIM]
theorem LIM16 : LIM 16 = 8796093022208 := by simp [LIM]
theorem LIM112 : 1000000 ≤ LIM 112 := by simp [LIM]
def sumOf (l : List Int) : Int := sm l 0 % 4294967296
theorem f96_eq {k : Nat} {l : List Int} (hk : l.length + 2 < k) (hl : (l.length : Int) ≤ 100000) (hu : U8 l) (K : Int → Option R) : f96 k l K = K (sumOf l) := by
  rw [f96_def]
  obtain ⟨k, rfl⟩ := succ_of hk
  have h2 := sm_le hu 0
  simp only [f96d, f96_0_def]
  refine (f96_loop k _ l (by omega) hu l.length k 0 0 (by omega) (by omega) (by omega) (by omega)).trans ?_
  have := mask_i64 (sm l 0) 32 (by omega) h2.1 (by omega)
  simp only [List.drop_zero, Int.zero_add]
  rw [show (4294967295 : Int) = 2 ^ 32 - 1 from rfl, this]
  rfl
theorem f43_eq {k : Nat} {l : List Int} (hk : 0 < k) (hl : l.length ≤ 1000000000) (K : List Int → Option R) : f43 k l K = K l := by
  rw [f43_def]
  obtain ⟨k, rfl⟩ := succ_of hk
  have : decide (l.length ≤ LIM 1) = true := by rw [LIM1]; simp only [decide_eq_true_eq]; omega
  simp only [f43d, this, cond_true]
theorem f131_eq {k : Nat} {l : List Rg} (hk : 0 < k) (hl : l.length ≤ 1000000000) (K : List Rg → Option R) : f131 k l K = K l := by
  rw [f131_def]
  obtain ⟨k, rfl⟩ := succ_of hk
  have : decide (l.length ≤ LIM 16) = true := by rw [LIM16]; simp only [decide_eq_true_eq]; omega
  simp only [f131d, this, cond_true]

/-! what is begun -/
noncomputable def chkFile (id : Int) (nm : ByteArray) (n : Nat) : Int := if inB id 0 65535 = false then 1 else if nameOk nm = false then 5 else if 100000 < n then 2 else 0
theorem d100000 (n : Nat) : decide ((n : Int) > 100000) = decide (100000 < n) := by rw [Bool.eq_iff_iff]; simp only [decide_eq_true_eq]; omega
theorem f59_eq {k : Nat} (id : Int) (s : ByteArray) (l : List Int) (hk : s.size + 4 < k) (hs : s.size < 4611686018427387904) (K : Int → Option R) : f59 k id s l K = K (chkFile id s l.length) := by
  rw [f59_def]
  obtain ⟨k, rfl⟩ := succ_of hk
  simp only [f59d, f26_eq (show 0 < k by omega), f92_eq (show s.size + 1 < k by omega) hs, chkFile, d100000]
  cases inB id 0 65535
  · rfl
  · cases nameOk s
    · rfl
    · by_cases h : 100000 < l.length <;> simp [h]
theorem chkFile_ok {id : Int} {s : ByteArray} {n : Nat} (h : chkFile id s n = 0) : n ≤ 100000 := by
  unfold chkFile at h
  split at h
  · cases h
  · split at h
    · cases h
    · split at h
      · cases h
      · omega

structure Sd where
  st : Int
  id : Int
  nm : ByteArray
  dat : List Int
  nx : Int
  hs : List Rg
  wt : Int
  tr : Int
def zS : Sd := ⟨0, 0, ⟨#[]⟩, [], 0, [], 0, 0⟩
abbrev Lt := Int × (Int × (ByteArray × (Int × (Int × (Int × (List Int × (List Rg × (Bool × Unit))))))))
noncomputable def beginF (id : Int) (nm : ByteArray) (l : List Int) : Sd × Int := if chkFile id nm l.length = 0 then (⟨1, id, nm, l, -1, [], 0, 0⟩, 0) else (zS, chkFile id nm l.length)
theorem f25_eq {k : Nat} (id : Int) (s : ByteArray) (l : List Int) (hk : s.size + 5 < k) (hs : s.size < 4611686018427387904) (K : Int → Int → ByteArray → Int → Int → Int → Int → List Int → Option R) :
    f25 k id s l K = K (beginF id s l).1.st (beginF id s l).1.id (beginF id s l).1.nm (beginF id s l).1.nx (beginF id s l).1.wt (beginF id s l).1.tr (beginF id s l).2 (beginF id s l).1.dat := by
  rw [f25_def]
  obtain ⟨k, rfl⟩ := succ_of hk
  simp only [f25d, f59_eq id s l (show s.size + 4 < k by omega) hs, bne_dec, beginF]
  by_cases h : chkFile id s l.length = 0
  · have := chkFile_ok h
    simp only [h, decide_true, Bool.not_true, cond_false, if_true, f43_eq (show 0 < k by omega) (show l.length ≤ 1000000000 by omega)]
  · simp [h, zS]
/-! a sender -/
noncomputable def chkSend (s : Sd) : Int :=
  if chkFile s.id s.nm s.dat.length ≠ 0 then chkFile s.id s.nm s.dat.length else if inB s.st 1 4 = false then 4
  else if inB s.nx (-1) s.dat.length = false then 1 else if inB s.wt 0 1000000 = false then 1 else if inB s.tr 0 50 = false then 1
  else if chkRgs (cutF s.hs) s.dat.length ≠ 0 then chkRgs (cutF s.hs) s.dat.length
  else if s.st = 2 then (if s.nx = s.dat.length ∧ s.hs.length = 0 ∧ s.wt ≠ 0 then 0 else 11) else if s.wt = 0 then 0 else 11
/-! what a checked sender is -/
def RgOk (n : Int) (x : Rg) : Prop := 0 ≤ x.1 ∧ x.1 < x.2.1 ∧ x.2.1 ≤ n
theorem rgF_ok {lim : Int} : ∀ {p : Option Int} {l : List Rg}, rgF lim p l = 0 → ∀ x ∈ l, RgOk lim x
  | _, [], _, x, hx => by cases hx
  | p, y :: l, h, x, hx => by
    have hb : RgOk lim y ∧ rgF lim (some y.2.1) l = 0 := by
      simp only [rgF] at h
      by_cases q1 : y.1 < 0
      · simp [q1] at h
      by_cases q2 : y.2.1 > lim
      · simp [q1, q2] at h
      by_cases q3 : y.2.1 ≤ y.1
      · simp [q1, q2, q3] at h
      have hr : RgOk lim y := ⟨by omega, by omega, by omega⟩
      cases p with
      | none => exact ⟨hr, by simpa [q1, q2, q3] using h⟩
      | some e =>
        by_cases q4 : y.1 ≤ e
        · simp [q1, q2, q3, q4] at h
        · exact ⟨hr, by simpa [q1, q2, q3, q4] using h⟩
    rcases List.mem_cons.1 hx with rfl | hx
    · exact hb.1
    · exact rgF_ok hb.2 x hx
theorem chkRgs_ok {l : List Rg} {lim : Int} (h : chkRgs l lim = 0) : (0 ≤ lim ∧ lim ≤ 100000) ∧ l.length ≤ 2000 ∧ ∀ x ∈ l, RgOk lim x := by
  unfold chkRgs at h
  split at h
  · cases h
  · rename_i h1
    split at h
    · cases h
    · exact ⟨inB_iff.1 (by simpa using h1), by omega, rgF_ok h⟩
structure SInv (s : Sd) : Prop where
  len : (s.dat.length : Int) ≤ 100000
  u8 : U8 s.dat
  nx0 : -1 ≤ s.nx
  nx1 : s.nx ≤ s.dat.length
  hsl : s.hs.length ≤ 2001
  rg : ∀ x ∈ cutF s.hs, RgOk s.dat.length x
theorem headF_cut {l : List Rg} {n : Int} (h : ∀ x ∈ l, RgOk n x) : headF l = false := by
  cases l with
  | nil => rfl
  | cons x l =>
    have := (h x (by simp)).1
    have h1 : ¬ x.1 = -1 := by omega
    simp [headF, h1]
theorem cutF_of {l : List Rg} (h : headF l = false) : cutF l = l := by simp [cutF, h]

/-! one letter -/
def metaL (s : Sd) : Lt := (1, (s.id, (s.nm, ((s.dat.length : Int), (sumOf s.dat, (0, ([], ([], (false, ())))))))))
def endL (s : Sd) : Lt := (3, (s.id, (⟨#[]⟩, ((s.dat.length : Int), (sumOf s.dat, (0, ([], ([], (false, ())))))))))
def dataL (s : Sd) (a b : Int) : Lt := (2, (s.id, (⟨#[]⟩, (0, (0, (a, ((s.dat.take b.toNat).drop a.toNat, ([], (false, ())))))))))
def mn (a b : Int) : Int := if a < b then a else b
def oneS (seg wait : Int) (s : Sd) : Sd × Lt :=
  if s.nx < 0 then ({ s with nx := 0 }, metaL s)
  else if headF s.hs = true then ({ s with hs := cutF s.hs }, metaL s)
  else match s.hs with
  | x :: r => ({ s with hs := if mn (x.1 + seg) x.2.1 < x.2.1 then (mn (x.1 + seg) x.2.1, (x.2.1, ())) :: r else r }, dataL s x.1 (mn (x.1 + seg) x.2.1))
  | [] => if s.nx < s.dat.length then ({ s with nx := mn (s.nx + seg) s.dat.length }, dataL s s.nx (mn (s.nx + seg) s.dat.length)) else ({ s with st := 2, wt := wait }, endL s)
theorem oneS_inv {seg wait : Int} (hg : 1 ≤ seg) {s : Sd} (h : SInv s) : SInv (oneS seg wait s).1 := by
  obtain ⟨h1, h2, h3, h4, h5, h6⟩ := h
  unfold oneS
  split
  · exact ⟨h1, h2, by show (-1 : Int) ≤ 0; omega, by show (0 : Int) ≤ s.dat.length; omega, h5, h6⟩
  · split
    · rename_i hn hh
      have := cutF_len s.hs
      refine ⟨h1, h2, h3, h4, by show (cutF s.hs).length ≤ 2001; omega, ?_⟩
      show ∀ x ∈ cutF (cutF s.hs), RgOk s.dat.length x
      rw [cutF_of (headF_cut h6)]
      exact h6
    · rename_i hn hh
      have hh : headF s.hs = false := by simpa using hh
      rw [cutF_of hh] at h6
      split
      · rename_i x r e
        rw [e] at h5 h6
        have hx := h6 x (by simp)
        have hr : ∀ y ∈ r, RgOk s.dat.length y := fun y hy => h6 y (by simp [hy])
        simp only [List.length_cons] at h5
        refine ⟨h1, h2, h3, h4, ?_, ?_⟩
        · show (if mn (x.1 + seg) x.2.1 < x.2.1 then (mn (x.1 + seg) x.2.1, (x.2.1, ())) :: r else r).length ≤ 2001
          split
          · simp only [List.length_cons]; omega
          · omega
        · show ∀ y ∈ cutF (if mn (x.1 + seg) x.2.1 < x.2.1 then (mn (x.1 + seg) x.2.1, (x.2.1, ())) :: r else r), RgOk s.dat.length y
          have hall : ∀ y ∈ (if mn (x.1 + seg) x.2.1 < x.2.1 then (mn (x.1 + seg) x.2.1, (x.2.1, ())) :: r else r), RgOk s.dat.length y := by
            split
            · rename_i hm
              intro y hy
              rcases List.mem_cons.1 hy with rfl | hy
              · refine ⟨?_, hm, hx.2.2⟩
                show 0 ≤ mn (x.1 + seg) x.2.1
                have := hx.1
                have := hx.2.1
                unfold mn; split <;> omega
              · exact hr y hy
            · exact hr
          rw [cutF_of (headF_cut hall)]
          exact hall
      · rename_i e
        split
        · refine ⟨h1, h2, ?_, ?_, h5, by rw [← cutF_of hh] at h6; exact h6⟩
          · show -1 ≤ mn (s.nx + seg) s.dat.length
            unfold mn; split <;> omega
          · show mn (s.nx + seg) s.dat.length ≤ s.dat.length
            unfold mn; split <;> omega
        · exact ⟨h1, h2, h3, h4, h5, by rw [← cutF_of hh] at h6; exact h6⟩
def apSL (K : Int → Int → ByteArray → List Int → Int → List Rg → Int → Int → Int → Int → ByteArray → Int → Int → Int → Bool → List Int → Option R) (x : Sd × Lt) : Option R :=
  K x.1.st x.1.id x.1.nm x.1.dat x.1.nx x.1.hs x.1.wt x.1.tr x.2.1 x.2.2.1 x.2.2.2.1 x.2.2.2.2.1 x.2.2.2.2.2.1 x.2.2.2.2.2.2.1 x.2.2.2.2.2.2.2.2.2.1 x.2.2.2.2.2.2.2.1
theorem f99_eq {k : Nat} {l : List Int} (hk : l.length + 3 < k) (hl : (l.length : Int) ≤ 100000) (hu : U8 l) (st id : Int) (nm : ByteArray) (nx : Int) (hs : List Rg) (wt tr : Int)
    (K : Int → Int → ByteArray → Int → Int → Int → Bool → Option R) : f99 k st id nm l nx hs wt tr K = K 3 id ⟨#[]⟩ l.length (sumOf l) 0 false := by
  rw [f99_def]
  obtain ⟨k, rfl⟩ := succ_of hk
  simp only [f99d, f96_eq (show l.length + 2 < k by omega) hl hu]
theorem slice_len {l : List Int} (a b : Nat) : ((l.take b).drop a).length ≤ l.length := by simp only [List.length_drop, List.length_take]; omega
theorem f132_eq {k : Nat} {l : List Int} (hk : 2 < k) (hl : (l.length : Int) ≤ 100000) {a n : Int} (ha : 0 ≤ a) (hn : 0 ≤ n) (hb : a + n ≤ l.length) (st id : Int) (nm : ByteArray) (nx : Int) (hs : List Rg) (wt tr : Int)
    (K : Int → Int → ByteArray → Int → Int → Int → Bool → List Int → Option R) : f132 k st id nm l nx hs wt tr a n K = K 2 id ⟨#[]⟩ 0 0 a false ((l.take (a + n).toNat).drop a.toNat) := by
  rw [f132_def]
  obtain ⟨k, rfl⟩ := succ_of hk
  simp only [f132d]
  rw [wi (n := a + n) (by omega) (by omega)]
  have h1 : decide (0 ≤ a) = true := by simp only [decide_eq_true_eq]; omega
  have h2 : decide (a ≤ a + n) = true := by simp only [decide_eq_true_eq]; omega
  have h3 : decide (a + n ≤ (l.length : Int)) = true := by simp only [decide_eq_true_eq]; omega
  have := slice_len (l := l) a.toNat (a + n).toNat
  simp only [h1, h2, h3, Bool.and_self, cond_true, f43_eq (l := (l.take (a + n).toNat).drop a.toNat) (show 0 < k by omega) (by omega)]
theorem mn_sub {a seg b : Int} : a + mn seg (b - a) = mn (a + seg) b := by unfold mn; split <;> split <;> omega
theorem f100_eq {k : Nat} (seg x2 x3 wait x5 : Int) (s : Sd) (hg : 1 ≤ seg ∧ seg ≤ 4096) (hi : SInv s) (hk : s.dat.length + 10 < k)
    (K : Int → Int → ByteArray → List Int → Int → List Rg → Int → Int → Int → Int → ByteArray → Int → Int → Int → Bool → List Int → Option R) :
    f100 k seg x2 x3 wait x5 s.st s.id s.nm s.dat s.nx s.hs s.wt s.tr K = apSL K (oneS seg wait s) := by
  obtain ⟨h1, h2, h3, h4, h5, h6⟩ := hi
  rw [f100_def]
  obtain ⟨k, rfl⟩ := succ_of hk
  simp only [f100d, f130_def, f96_eq (show s.dat.length + 2 < k by omega) h1 h2, f99_eq (show s.dat.length + 3 < k by omega) h1 h2, beq_dec, oneS]
  by_cases e1 : s.nx < 0
  · have : s.nx = -1 := by omega
    simp only [this, decide_true, cond_true]
    simp [apSL, metaL]
  · have e1' : ¬ s.nx = -1 := by omega
    simp only [e1, e1', decide_false, cond_false, if_false]
    obtain ⟨k, rfl⟩ := succ_of (show 0 < k by omega)
    simp only [f130d]
    have hw0 : IntKind.i64.wrap (s.dat.length - s.nx) = s.dat.length - s.nx := wi (by omega) (by omega)
    cases e : s.hs with
    | nil =>
      have hh : headF ([] : List Rg) = false := rfl
      have z1 : decide (((([] : List Rg)).length : Int) > 0) = false := by simp
      simp only [z1, hh, Bool.false_eq_true, if_false, cond_false]
      rw [show (false == true) = false from rfl]
      simp only [cond_false, hw0]
      by_cases e2 : s.nx < s.dat.length
      · have hm : mn seg (s.dat.length - s.nx) = if seg < s.dat.length - s.nx then seg else s.dat.length - s.nx := rfl
        rw [← hm]
        have hm0 : 0 ≤ mn seg (s.dat.length - s.nx) := by unfold mn; split <;> omega
        have hm1 : s.nx + mn seg (s.dat.length - s.nx) ≤ s.dat.length := by unfold mn; split <;> omega
        rw [wi (n := s.nx + mn seg (s.dat.length - s.nx)) (by omega) (by omega)]
        simp only [e2, decide_true, cond_true, if_true, f132_eq (show 2 < k + 1 by omega) h1 (show 0 ≤ s.nx by omega) hm0 hm1, apSL, dataL, mn_sub, e]
      · simp only [e2, decide_false, cond_false, if_false, apSL, endL, e]
    | cons x r =>
      have z1 : decide (((x :: r).length : Int) > 0) = true := by simp only [decide_eq_true_eq, List.length_cons]; omega
      have z2 : decide (0 < ((x :: r).length : Int)) = true := by simp only [decide_eq_true_eq, List.length_cons]; omega
      have z3 : decide (1 ≤ ((x :: r).length : Int)) = true := by simp only [decide_eq_true_eq, List.length_cons]; omega
      rw [e] at h5 h6
      simp only [List.length_cons] at h5
      simp only [z1, z2, z3, cond_true, beq_self_eq_true, List.getD_cons_zero, Bool.and_true]
      cases hh : headF (x :: r)
      · have hh' : (decide (x.1 = -1) && decide (x.2.1 = 0)) = false := hh
        rw [cutF_of hh] at h6
        obtain ⟨hx1, hx2, hx3⟩ := h6 x (by simp)
        rw [wi (n := x.2.1 - x.1) (by omega) (by omega)]
        have hm : mn seg (x.2.1 - x.1) = if seg < x.2.1 - x.1 then seg else x.2.1 - x.1 := rfl
        rw [← hm]
        have hm0 : 0 ≤ mn seg (x.2.1 - x.1) := by unfold mn; split <;> omega
        have hm1 : x.1 + mn seg (x.2.1 - x.1) ≤ s.dat.length := by unfold mn; split <;> omega
        simp only [hh', cond_false, f132_eq (show 2 < k + 1 by omega) h1 hx1 hm0 hm1, f131_eq (l := x :: r) (show 0 < k + 1 by omega) (by simp only [List.length_cons]; omega), z2, cond_true, List.getD_cons_zero,
          List.set_cons_zero, List.length_cons]
        rw [wi (n := x.1 + mn seg (x.2.1 - x.1)) (by omega) (by omega), mn_sub]
        have z4 : decide (0 < (((r.length + 1 : Nat)) : Int)) = true := by simp only [decide_eq_true_eq]; omega
        have z5 : decide (1 ≤ (((r.length + 1 : Nat)) : Int)) = true := by simp only [decide_eq_true_eq]; omega
        simp only [z4, z5, cond_true, f100_1000018_def, f100_1000018d, List.length_cons, List.drop_succ_cons, List.drop_zero, Nat.add_sub_cancel, List.take_length]
        by_cases e3 : mn (x.1 + seg) x.2.1 = x.2.1
        · have e4 : ¬ mn (x.1 + seg) x.2.1 < x.2.1 := by omega
          simp only [e3, decide_true, cond_true, Int.lt_irrefl, if_false, apSL, dataL, Bool.false_eq_true]
        · have e4 : mn (x.1 + seg) x.2.1 < x.2.1 := by 
            have : mn (x.1 + seg) x.2.1 ≤ x.2.1 := by unfold mn; split <;> omega
            omega
          simp only [e3, decide_false, cond_false, e4, if_true, if_false, apSL, dataL, Bool.false_eq_true]
      · have hh' : (decide (x.1 = -1) && decide (x.2.1 = 0)) = true := hh
        simp only [hh', cond_true, if_true, List.drop_succ_cons, List.drop_zero, f131_eq (l := r) (show 0 < k + 1 by omega) (by omega), f96_eq (show s.dat.length + 2 < k + 1 by omega) h1 h2, apSL, metaL, cutF, hh]
end Go.Proofs.YtoepnomdklhhlaaGreat.PM
/- Plain laws of senders: the reference's letter, ticks. -/
set_option linter.unusedSimpArgs false
set_option linter.unusedVariables false
namespace Go.Proofs.YtoepnomdklhhlaaGreat.PM
open Go Go.Proofs.YtoepnomdklhhlaaGreat.Bt
variable {R : Type}

def apLS (K : Int → Int → ByteArray → Int → Int → Int → Bool → Int → Int → ByteArray → List Int → Int → List Rg → Int → Int → List Int → Option R) (x : Sd × Lt) : Option R :=
  K x.2.1 x.2.2.1 x.2.2.2.1 x.2.2.2.2.1 x.2.2.2.2.2.1 x.2.2.2.2.2.2.1 x.2.2.2.2.2.2.2.2.2.1 x.1.st x.1.id x.1.nm x.1.dat x.1.nx x.1.hs x.1.wt x.1.tr x.2.2.2.2.2.2.2.1
/-! a run of letters -/
def runS (seg wait : Int) : Nat → Sd → List Lt → Sd × List Lt
  | 0, s, o => (s, o)
  | d + 1, s, o => if s.st = 1 then runS seg wait d (oneS seg wait s).1 (o ++ [(oneS seg wait s).2]) else (s, o)
theorem oneS_eta (seg wait : Int) (s : Sd) : ((oneS seg wait s).2.1, ((oneS seg wait s).2.2.1, ((oneS seg wait s).2.2.2.1, ((oneS seg wait s).2.2.2.2.1, ((oneS seg wait s).2.2.2.2.2.1, ((oneS seg wait s).2.2.2.2.2.2.1, ((oneS seg wait s).2.2.2.2.2.2.2.1, (([] : List Rg), ((oneS seg wait s).2.2.2.2.2.2.2.2.2.1, ()))))))))) = (oneS seg wait s).2 := by
  unfold oneS
  split
  · rfl
  · split
    · rfl
    · split
      · rfl
      · split <;> rfl
theorem oneS_dat (seg wait : Int) (s : Sd) : (oneS seg wait s).1.dat = s.dat := by
  unfold oneS
  split
  · rfl
  · split
    · rfl
    · split
      · rfl
      · split <;> rfl
def apSO (K : Int → Int → ByteArray → List Int → Int → List Rg → Int → Int → List Lt → Option R) (x : Sd × List Lt) : Option R := K x.1.st x.1.id x.1.nm x.1.dat x.1.nx x.1.hs x.1.wt x.1.tr x.2
theorem f64_loop (k : Nat) (x0 : Int → Int → ByteArray → List Int → Int → List Rg → Int → Int → List Lt → Option R) (seg x2 wait x5 : Int) (rate : Nat) (hr : rate ≤ 100) (hg : 1 ≤ seg ∧ seg ≤ 4096) (y0 y1 : Int) (y2 : ByteArray) (y3 y4 y5 : Int) :
    ∀ (d f : Nat) (s : Sd) (o : List Lt), o.length + d = rate → d < f → SInv s → s.dat.length + 10 < k →
    f64_0d k x0 seg x2 (rate : Int) wait x5 y0 y1 y2 y3 y4 y5 f s.st s.id s.nm s.dat s.nx s.hs s.wt s.tr o = apSO x0 (runS seg wait d s o) := by
  intro d
  induction d with
  | zero =>
    intro f s o ho hf hi hk
    obtain ⟨f, rfl⟩ := succ_of hf
    have h1 : decide ((o.length : Int) < (rate : Int)) = false := by simp only [decide_eq_false_iff_not]; omega
    simp only [f64_0d, f64_0b, h1]
    rfl
  | succ d ih =>
    intro f s o ho hf hi hk
    obtain ⟨f, rfl⟩ := succ_of hf
    have h1 : decide ((o.length : Int) < (rate : Int)) = true := by simp only [decide_eq_true_eq]; omega
    simp only [f64_0d, f64_0b, h1, beq_self_eq_true, cond_true, beq_dec, runS]
    by_cases e : s.st = 1
    · have hL := LIM112
      have h2 : decide (o.length + ([(oneS seg wait s).2] : List Lt).length ≤ LIM 112) = true := by simp only [decide_eq_true_eq, List.length_singleton]; omega
      simp only [e, decide_true, cond_true, if_true]
      rw [← e, f100_eq seg x2 (rate : Int) wait x5 s hg hi hk]
      simp only [apSL, oneS_eta]
      simp only [h2, cond_true]
      exact ih f (oneS seg wait s).1 _ (by simp; omega) (by omega) (oneS_inv hg.1 hi) (by rw [oneS_dat]; exact hk)
    · simp only [e, decide_false, cond_false, if_false]
      rfl
/-! a tick of a sender -/
def stopL (s : Sd) : Lt := (6, (s.id, (⟨#[]⟩, (0, (0, (0, ([], ([], (false, ())))))))))
def tickS (seg : Int) (rate : Nat) (wait most : Int) (s : Sd) : Sd × List Lt :=
  if s.st = 2 then (if s.wt - 1 > 0 then ({ s with wt := s.wt - 1 }, []) else if s.tr ≥ most then ({ s with st := 4, wt := s.wt - 1 }, [stopL s]) else ({ s with wt := wait, tr := s.tr + 1 }, [endL s]))
  else runS seg wait rate s []
theorem f64_eq {k : Nat} (seg x2 wait most : Int) (rate : Nat) (s : Sd) (hr : rate ≤ 100) (hg : 1 ≤ seg ∧ seg ≤ 4096) (hi : SInv s) (hw : 0 ≤ s.wt ∧ s.wt ≤ 1000000) (ht : 0 ≤ s.tr ∧ s.tr ≤ 50) (hk : s.dat.length + rate + 20 < k)
    (K : Int → Int → ByteArray → List Int → Int → List Rg → Int → Int → List Lt → Option R) :
    f64 k seg x2 (rate : Int) wait most s.st s.id s.nm s.dat s.nx s.hs s.wt s.tr K = apSO K (tickS seg rate wait most s) := by
  rw [f64_def]
  obtain ⟨k, rfl⟩ := succ_of hk
  simp only [f64d, f99_eq (show s.dat.length + 3 < k by omega) hi.len hi.u8, beq_dec, tickS]
  rw [wi (n := s.wt - 1) (by omega) (by omega), wi (n := s.tr + 1) (by omega) (by omega)]
  by_cases e : s.st = 2
  · by_cases e1 : s.wt - 1 > 0
    · simp only [e, e1, decide_true, cond_true, if_true]; simp only [apSO, e]
    · by_cases e2 : s.tr ≥ most
      · simp only [e, e1, e2, decide_true, decide_false, cond_true, cond_false, if_true, if_false]; simp only [apSO, stopL]
      · simp only [e, e1, e2, decide_true, decide_false, cond_true, cond_false, if_true, if_false]; simp only [apSO, endL, e]
  · simp only [e, decide_false, cond_false, if_false, f64_0_def]
    exact f64_loop k _ seg x2 wait most rate hr hg 0 0 ⟨#[]⟩ 0 0 0 rate k s [] (by simp) (by omega) hi (by omega)
noncomputable def stepS (a b c d e : Int) (s : Sd) : (Sd × List Lt) × Int :=
  if chkFig a b c d e ≠ 0 then ((zS, []), chkFig a b c d e) else if chkSend s ≠ 0 then ((zS, []), chkSend s) else (tickS a c.toNat d e s, 0)
theorem chkFig_ok {a b c d e : Int} (h : chkFig a b c d e = 0) : (1 ≤ a ∧ a ≤ 4096) ∧ (1 ≤ c ∧ c ≤ 100) := by
  unfold chkFig at h
  split at h
  · rename_i h'
    simp only [Bool.and_eq_true, inB_iff] at h'
    exact ⟨h'.1.1.1.1, h'.1.1.2⟩
  · cases h
theorem chkSend_ok {s : Sd} (h : chkSend s = 0) (hu : U8 s.dat) : SInv s ∧ (0 ≤ s.wt ∧ s.wt ≤ 1000000) ∧ (0 ≤ s.tr ∧ s.tr ≤ 50) := by
  unfold chkSend at h
  by_cases h1 : chkFile s.id s.nm s.dat.length = 0
  · cases h2 : inB s.st 1 4
    · simp [h1, h2] at h
    · cases h3 : inB s.nx (-1) s.dat.length
      · simp [h1, h2, h3] at h
      · cases h4 : inB s.wt 0 1000000
        · simp [h1, h2, h3, h4] at h
        · cases h5 : inB s.tr 0 50
          · simp [h1, h2, h3, h4, h5] at h
          · by_cases h6 : chkRgs (cutF s.hs) s.dat.length = 0
            · obtain ⟨_, q1, q2⟩ := chkRgs_ok h6
              have q3 := chkFile_ok h1
              obtain ⟨n1, n2⟩ := inB_iff.1 h3
              refine ⟨⟨by omega, hu, n1, n2, ?_, q2⟩, inB_iff.1 h4, inB_iff.1 h5⟩
              have : s.hs.length ≤ (cutF s.hs).length + 1 := by
                unfold cutF
                cases headF s.hs <;> simp <;> omega
              omega
            · simp [h1, h2, h3, h4, h5, h6] at h
  · simp [h1] at h
def apSF (K : Int → Int → ByteArray → List Int → Int → List Rg → Int → Int → Int → List Lt → Option R) (x : (Sd × List Lt) × Int) : Option R :=
  K x.1.1.st x.1.1.id x.1.1.nm x.1.1.dat x.1.1.nx x.1.1.hs x.1.1.wt x.1.1.tr x.2 x.1.2
/-! comparing equals -/
/-! what a tick leaves -/
theorem oneS_none (seg wait : Int) (s : Sd) : (oneS seg wait s).2.2.2.2.2.2.2.2.1 = [] := by rw [← oneS_eta]
theorem runS_inv (seg wait : Int) (hg : 1 ≤ seg) : ∀ (d : Nat) (s : Sd) (o : List Lt), SInv s → (∀ x ∈ o, x.2.2.2.2.2.2.2.1 = []) → SInv (runS seg wait d s o).1 ∧ (∀ x ∈ (runS seg wait d s o).2, x.2.2.2.2.2.2.2.1 = []) ∧ (runS seg wait d s o).2.length ≤ o.length + d
  | 0, s, o, hi, ho => ⟨hi, ho, Nat.le_refl _⟩
  | d + 1, s, o, hi, ho => by
    simp only [runS]
    split
    · obtain ⟨a, b, c⟩ := runS_inv seg wait hg d (oneS seg wait s).1 (o ++ [(oneS seg wait s).2]) (oneS_inv hg hi) (fun x hx => by
        rcases List.mem_append.1 hx with hx | hx
        · exact ho x hx
        · rw [List.mem_singleton.1 hx]; exact oneS_none seg wait s)
      refine ⟨a, b, ?_⟩
      simp only [List.length_append, List.length_singleton] at c
      omega
    · exact ⟨hi, ho, by simp⟩
theorem stepS_ok (a b c d e : Int) (s : Sd) (hu : U8 s.dat) : (stepS a b c d e s).1.1.hs.length ≤ 2001 ∧ (∀ x ∈ (stepS a b c d e s).1.2, x.2.2.2.2.2.2.2.1 = []) ∧ (stepS a b c d e s).1.2.length ≤ 101 := by
  by_cases h1 : chkFig a b c d e = 0
  · by_cases h2 : chkSend s = 0
    · obtain ⟨q1, q2⟩ := chkFig_ok h1
      obtain ⟨g1, g2, g3⟩ := chkSend_ok h2 hu
      have g5 := g1.hsl
      have hv : stepS a b c d e s = (tickS a c.toNat d e s, 0) := by simp [stepS, h1, h2]
      rw [hv]
      show (tickS a c.toNat d e s).1.hs.length ≤ 2001 ∧ (∀ x ∈ (tickS a c.toNat d e s).2, x.2.2.2.2.2.2.2.1 = []) ∧ (tickS a c.toNat d e s).2.length ≤ 101
      unfold tickS
      split
      · split
        · exact ⟨g5, by simp, by simp⟩
        · split
          · exact ⟨g5, by simp [stopL], by simp⟩
          · exact ⟨g5, by simp [endL], by simp⟩
      · obtain ⟨u, v, w⟩ := runS_inv a d q1.1 c.toNat s [] g1 (by simp)
        exact ⟨u.hsl, v, by simp only [List.length_nil] at w; omega⟩
    · have hv : stepS a b c d e s = ((zS, []), chkSend s) := by simp [stepS, h1, h2]
      rw [hv]; exact ⟨by simp [zS], by simp, by simp⟩
  · have hv : stepS a b c d e s = ((zS, []), chkFig a b c d e) := by simp [stepS, h1]
    rw [hv]; exact ⟨by simp [zS], by simp, by simp⟩
theorem beginF_hs (id : Int) (nm : ByteArray) (l : List Int) : (beginF id nm l).1.hs = [] := by unfold beginF; split <;> rfl
end Go.Proofs.YtoepnomdklhhlaaGreat.PM
/- Plain laws of receivers: what lacks, what is judged. -/
set_option linter.unusedSimpArgs false
set_option linter.unusedVariables false
namespace Go.Proofs.YtoepnomdklhhlaaGreat.PM
open Go Go.Proofs.YtoepnomdklhhlaaGreat.Bt
variable {R : Type}

/-! what a list lacks -/
def preF : Int → List Rg → List Rg
  | _, [] => []
  | a, x :: l => (if x.1 > a then [(a, (x.1, ()))] else []) ++ preF x.2.1 l
def lastT : Int → List Rg → Int
  | a, [] => a
  | _, x :: l => lastT x.2.1 l
def holesF (l : List Rg) (e : Int) : List Rg := preF 0 l ++ if lastT 0 l < e then [(lastT 0 l, (e, ()))] else []
theorem preF_len : ∀ (a : Int) (l : List Rg), (preF a l).length ≤ l.length
  | _, [] => by simp [preF]
  | a, x :: l => by
    have := preF_len x.2.1 l
    simp only [preF, List.length_append, List.length_cons]
    split <;> simp <;> omega
theorem holesF_len (l : List Rg) (e : Int) : (holesF l e).length ≤ l.length + 1 := by
  have := preF_len 0 l
  unfold holesF
  split <;> simp <;> omega
theorem f126_loop (k : Nat) (x0 : Int → List Rg → Option R) (e : Int) (l : List Rg) (hl : l.length ≤ 1000000) : ∀ (d f i : Nat) (a : Int) (o : List Rg), i + d = l.length → d < f → o.length ≤ i →
    f126_0d k x0 e l (l.length : Int) f a (i : Int) o = x0 (lastT a (l.drop i)) (o ++ preF a (l.drop i)) := by
  intro d
  induction d with
  | zero =>
    intro f i a o hi hf ho
    obtain ⟨f, rfl⟩ := succ_of hf
    have h1 : decide ((i : Int) < (l.length : Int)) = false := by simp only [decide_eq_false_iff_not]; omega
    simp only [f126_0d, f126_0b, h1, cond_false]
    rw [List.drop_of_length_le (by omega)]
    simp [lastT, preF]
  | succ d ih =>
    intro f i a o hi hf ho
    obtain ⟨f, rfl⟩ := succ_of hf
    have h1 : decide ((i : Int) < (l.length : Int)) = true := by simp only [decide_eq_true_eq]; omega
    have h0 : decide ((0 : Int) ≤ (i : Int)) = true := by simp
    have hw : IntKind.i64.wrap ((i : Int) + 1) = ((i + 1 : Nat) : Int) := by rw [wi (by omega) (by omega)]; omega
    have hli : i < l.length := by omega
    have hg : l.getD (Int.toNat (i : Int)) (0, (0, ())) = l[i] := getD_in hli
    simp only [f126_0d, f126_0b, hg, h1, h0, cond_true, Bool.and_self, hw, f126_1000007_def, f126_1000007d]
    rw [List.drop_eq_getElem_cons hli]
    simp only [lastT, preF]
    have hL : decide (o.length + ([((a, ((l[i]).1, ())) : Rg)]).length ≤ LIM 16) = true := by rw [LIM16]; simp only [decide_eq_true_eq, List.length_singleton]; omega
    by_cases q : (l[i]).1 > a
    · simp only [q, decide_true, cond_true, hL, if_true]
      rw [ih f (i + 1) _ _ (by omega) (by omega) (by simp; omega), List.append_assoc]
    · simp only [q, decide_false, cond_false, if_false, List.nil_append]
      exact ih f (i + 1) _ _ (by omega) (by omega) (by omega)
theorem f126_eq {k : Nat} {l : List Rg} (hk : l.length + 2 < k) (hl : l.length ≤ 1000000) (e : Int) (K : List Rg → Option R) : f126 k l e K = K (holesF l e) := by
  rw [f126_def]
  obtain ⟨k, rfl⟩ := succ_of hk
  simp only [f126d, f126_0_def]
  refine (f126_loop k _ e l hl l.length k 0 0 [] (by omega) (by omega) (by simp)).trans ?_
  have := preF_len 0 l
  have hL : decide ((preF 0 l).length + ([((lastT 0 l, (e, ())) : Rg)]).length ≤ LIM 16) = true := by rw [LIM16]; simp only [decide_eq_true_eq, List.length_singleton]; omega
  simp only [f126_1000011_def, f126_1000011d, List.drop_zero, List.nil_append, holesF, hL, cond_true]
  by_cases q : lastT 0 l < e <;> simp [q]
/-! lists in order -/
def Srt (lim : Int) : Int → List Rg → Prop
  | _, [] => True
  | a, x :: l => a ≤ x.1 ∧ x.1 < x.2.1 ∧ x.2.1 ≤ lim ∧ Srt lim x.2.1 l
theorem rgF_srt {lim : Int} : ∀ {p : Option Int} {l : List Rg}, rgF lim p l = 0 → Srt lim (p.getD 0) l
  | _, [], _ => trivial
  | p, y :: l, h => by
    simp only [rgF] at h
    by_cases q1 : y.1 < 0
    · simp [q1] at h
    by_cases q2 : y.2.1 > lim
    · simp [q1, q2] at h
    by_cases q3 : y.2.1 ≤ y.1
    · simp [q1, q2, q3] at h
    cases p with
    | none => exact ⟨by show (0 : Int) ≤ y.1; omega, by omega, by omega, rgF_srt (p := some y.2.1) (by simpa [q1, q2, q3] using h)⟩
    | some e =>
      by_cases q4 : y.1 ≤ e
      · simp [q1, q2, q3, q4] at h
      · exact ⟨by show e ≤ y.1; omega, by omega, by omega, rgF_srt (p := some y.2.1) (by simpa [q1, q2, q3, q4] using h)⟩
theorem lastT_bounds {lim : Int} : ∀ {a : Int} {l : List Rg}, Srt lim a l → a ≤ lastT a l ∧ (a ≤ lim → lastT a l ≤ lim)
  | a, [], _ => ⟨Int.le_refl _, id⟩
  | a, x :: l, ⟨h1, h2, h3, h4⟩ => by
    have := lastT_bounds h4
    simp only [lastT]
    exact ⟨by omega, fun _ => this.2 h3⟩
theorem srt_low {lim : Int} : ∀ {a : Int} {l : List Rg}, Srt lim a l → ∀ x ∈ l, a ≤ x.1
  | _, [], _, x, hx => by cases hx
  | a, y :: l, ⟨h1, h2, h3, h4⟩, x, hx => by
    rcases List.mem_cons.1 hx with rfl | hx
    · exact h1
    · have := srt_low h4 x hx; omega
def inR (l : List Rg) (j : Int) : Prop := ∃ x ∈ l, x.1 ≤ j ∧ j < x.2.1
theorem preF_mem {lim : Int} : ∀ {a : Int} {l : List Rg}, Srt lim a l → ∀ j, inR (preF a l) j ↔ (a ≤ j ∧ j < lastT a l ∧ ¬ inR l j)
  | a, [], _, j => by
    simp only [preF, lastT, inR]
    constructor
    · rintro ⟨x, hx, _⟩; cases hx
    · rintro ⟨h1, h2, _⟩; omega
  | a, x :: l, ⟨h1, h2, h3, h4⟩, j => by
    have ih := preF_mem h4 j
    have hb := (lastT_bounds h4).1
    have hlow := srt_low h4
    simp only [preF, lastT]
    constructor
    · rintro ⟨y, hy, hj⟩
      rcases List.mem_append.1 hy with hy | hy
      · split at hy
        · rw [List.mem_singleton] at hy
          subst hy
          have hj1 : a ≤ j := hj.1
          have hj2 : j < x.1 := hj.2
          refine ⟨hj1, by omega, ?_⟩
          rintro ⟨z, hz, hz1, hz2⟩
          rcases List.mem_cons.1 hz with rfl | hz
          · omega
          · have := hlow z hz; omega
        · cases hy
      · obtain ⟨g1, g2, g3⟩ := ih.1 ⟨y, hy, hj⟩
        refine ⟨by omega, g2, ?_⟩
        rintro ⟨z, hz, hz1, hz2⟩
        rcases List.mem_cons.1 hz with rfl | hz
        · omega
        · exact g3 ⟨z, hz, hz1, hz2⟩
    · rintro ⟨g1, g2, g3⟩
      by_cases q : j < x.1
      · refine ⟨(a, (x.1, ())), List.mem_append.2 (Or.inl ?_), g1, q⟩
        rw [if_pos (show x.1 > a by omega)]; simp
      · have q2 : x.2.1 ≤ j := by
          by_cases q2 : x.2.1 ≤ j
          · exact q2
          · exact absurd ⟨x, by simp, by omega, by omega⟩ g3
        obtain ⟨y, hy, hj⟩ := ih.2 ⟨q2, g2, fun ⟨z, hz, hz'⟩ => g3 ⟨z, by simp [hz], hz'⟩⟩
        exact ⟨y, List.mem_append.2 (Or.inr hy), hj⟩
theorem preF_rg {lim : Int} : ∀ {a : Int} {l : List Rg}, Srt lim a l → ∀ h ∈ preF a l, a ≤ h.1 ∧ h.1 < h.2.1 ∧ h.2.1 ≤ lastT a l
  | a, [], _, h, hh => by cases hh
  | a, x :: l, ⟨h1, h2, h3, h4⟩, h, hh => by
    have hb := (lastT_bounds h4).1
    simp only [preF] at hh
    simp only [lastT]
    rcases List.mem_append.1 hh with hh | hh
    · split at hh
      · rename_i q
        rw [List.mem_singleton] at hh
        subst hh
        exact ⟨Int.le_refl _, q, by show x.1 ≤ _; omega⟩
      · cases hh
    · have := preF_rg h4 h hh
      omega
theorem holesF_last (l : List Rg) : holesF l (lastT 0 l) = preF 0 l := by simp [holesF]

/-! bytes out of what is had -/
def anyNZ : List Int → Bool
  | [] => false
  | b :: l => decide (b ≠ 0) || anyNZ l
theorem anyNZ_iff : ∀ {l : List Int}, anyNZ l = true ↔ ∃ j, ∃ h : j < l.length, l[j] ≠ 0
  | [] => by simp [anyNZ]
  | b :: l => by
    simp only [anyNZ, Bool.or_eq_true, decide_eq_true_eq, anyNZ_iff (l := l)]
    constructor
    · rintro (h | ⟨j, hj, h⟩)
      · exact ⟨0, by simp, by simpa using h⟩
      · exact ⟨j + 1, by simp; omega, by simpa using h⟩
    · rintro ⟨j, hj, h⟩
      cases j with
      | zero => exact Or.inl (by simpa using h)
      | succ j => exact Or.inr ⟨j, by simp at hj; omega, by simpa using h⟩
theorem anyNZ_sub {l : List Int} {a b : Nat} : anyNZ ((l.take b).drop a) = true ↔ ∃ j, ∃ h : j < l.length, a ≤ j ∧ j < b ∧ l[j] ≠ 0 := by
  rw [anyNZ_iff]
  constructor
  · rintro ⟨j, hj, h⟩
    simp only [List.length_drop, List.length_take] at hj
    refine ⟨a + j, by omega, by omega, by omega, ?_⟩
    simpa using h
  · rintro ⟨j, hj, h1, h2, h⟩
    refine ⟨j - a, by simp only [List.length_drop, List.length_take]; omega, ?_⟩
    have : a + (j - a) = j := by omega
    simp only [List.getElem_drop, List.getElem_take, this]
    exact h
def insB (l : List Rg) (j : Int) : Bool := l.any fun x => decide (x.1 ≤ j) && decide (j < x.2.1)
theorem insB_iff {l : List Rg} {j : Int} : insB l j = true ↔ inR l j := by simp [insB, inR]
def badF (hv : List Rg) : List Int → Nat → Bool
  | [], _ => false
  | b :: l, i => (decide (b ≠ 0) && !insB hv i) || badF hv l (i + 1)
theorem badF_iff {hv : List Rg} : ∀ {l : List Int} {i : Nat}, badF hv l i = true ↔ ∃ j, ∃ h : j < l.length, l[j] ≠ 0 ∧ ¬ inR hv ((i + j : Nat) : Int)
  | [], i => by simp [badF]
  | b :: l, i => by
    have hI : (!insB hv (i : Int)) = true ↔ ¬ inR hv (i : Int) := by rw [← insB_iff]; simp
    simp only [badF, Bool.or_eq_true, Bool.and_eq_true, decide_eq_true_eq, badF_iff (l := l), hI]
    constructor
    · rintro (h | ⟨j, hj, h1, h2⟩)
      · exact ⟨0, by simp, by simpa using h⟩
      · exact ⟨j + 1, by simp; omega, by simpa using h1, by rwa [show i + (j + 1) = i + 1 + j by omega]⟩
    · rintro ⟨j, hj, h1, h2⟩
      cases j with
      | zero => exact Or.inl ⟨by simpa using h1, by simpa using h2⟩
      | succ j => exact Or.inr ⟨j, by simp at hj; omega, by simpa using h1, by rwa [show i + 1 + j = i + (j + 1) by omega]⟩
theorem holes_bad {lim : Int} {hv : List Rg} {dat : List Int} (hs : Srt lim 0 hv) (hl : (dat.length : Int) = lastT 0 hv) :
    (preF 0 hv).any (fun h => anyNZ ((dat.take h.2.1.toNat).drop h.1.toNat)) = badF hv dat 0 := by
  rw [Bool.eq_iff_iff, List.any_eq_true, badF_iff]
  constructor
  · rintro ⟨h, hh, hb⟩
    obtain ⟨j, hj, h1, h2, h3⟩ := anyNZ_sub.1 hb
    obtain ⟨r1, r2, r3⟩ := preF_rg hs h hh
    refine ⟨j, hj, h3, ?_⟩
    rw [Nat.zero_add]
    exact ((preF_mem hs (j : Int)).1 ⟨h, hh, by omega, by omega⟩).2.2
  · rintro ⟨j, hj, h1, h2⟩
    rw [Nat.zero_add] at h2
    obtain ⟨h, hh, q1, q2⟩ := (preF_mem hs (j : Int)).2 ⟨by omega, by omega, h2⟩
    obtain ⟨r1, r2, r3⟩ := preF_rg hs h hh
    exact ⟨h, hh, anyNZ_sub.2 ⟨j, hj, by omega, by omega, h1⟩⟩
end Go.Proofs.YtoepnomdklhhlaaGreat.PM
/- Plain laws of receivers: checks and ticks. -/
set_option linter.unusedSimpArgs false
set_option linter.unusedVariables false
namespace Go.Proofs.YtoepnomdklhhlaaGreat.PM
open Go Go.Proofs.YtoepnomdklhhlaaGreat.Bt
variable {R : Type}

structure Rv where
  st : Int
  id : Int
  nm : ByteArray
  dat : List Int
  hv : List Rg
  sz : Int
  sum : Int
  wt : Int
  tr : Int
def zR : Rv := ⟨0, 0, ⟨#[]⟩, [], [], 0, 0, 0, 0⟩
theorem lastT_getD : ∀ (a : Int) (l : List Rg), l ≠ [] → lastT a l = (l.getD (l.length - 1) (0, (0, ()))).2.1
  | a, [], h => absurd rfl h
  | a, [x], _ => rfl
  | a, x :: y :: l, _ => by
    have := lastT_getD x.2.1 (y :: l) (by simp)
    simp only [lastT] at this ⊢
    rw [this]
    simp
theorem ends_eq {l : List Rg} (hl : l.length < 4611686018427387904) (h : l ≠ []) : (decide (0 ≤ IntKind.i64.wrap ((l.length : Int) - 1)) && decide (IntKind.i64.wrap ((l.length : Int) - 1) < (l.length : Int))) = true ∧ (l.getD (Int.toNat (IntKind.i64.wrap ((l.length : Int) - 1))) (0, (0, ()))).2.1 = lastT 0 l := by
  have hp : 0 < l.length := List.length_pos_iff.2 h
  have hw : IntKind.i64.wrap ((l.length : Int) - 1) = ((l.length - 1 : Nat) : Int) := by rw [wi (by omega) (by omega)]; omega
  rw [hw, lastT_getD 0 l h, Int.toNat_natCast]
  exact ⟨by simp only [Bool.and_eq_true, decide_eq_true_eq]; omega, rfl⟩
def stB (q2 w0 s1 q0 e l0 t0 h0 : Bool) : Bool := (q2 && (w0 || s1)) || (!q2 && !w0) || (q0 && !(e && l0 && s1 && t0)) || (q2 && !e && h0)
def formV (r : Rv) : Int := if (r.dat.length : Int) ≠ lastT 0 r.hv then 3 else if badF r.hv r.dat 0 = true then 3 else if r.sz = -1 ∧ (r.sum ≠ 0 ∨ emp r.nm = false) then 3 else 0
noncomputable def chkRecv (r : Rv) : Int :=
  if inB r.id 0 65535 = false then 1 else if inB r.st 0 4 = false then 4 else if emp r.nm = false ∧ nameOk r.nm = false then 5
  else if inB r.sz (-1) 100000 = false then 1 else if inB r.sum 0 4294967295 = false then 1 else if inB r.wt 0 1000000 = false then 1 else if inB r.tr 0 50 = false then 1
  else if chkRgs r.hv (if r.sz = -1 then 100000 else r.sz) ≠ 0 then chkRgs r.hv (if r.sz = -1 then 100000 else r.sz)
  else if formV r ≠ 0 then formV r
  else if stB (decide (r.st = 2)) (decide (r.wt = 0)) (decide (r.sz = -1)) (decide (r.st = 0)) (emp r.nm) (decide (r.dat.length = 0)) (decide (r.tr = 0)) (decide ((holesF r.hv r.sz).length = 0)) = true then 11 else 0
theorem chkRgs_srt {l : List Rg} {lim : Int} (h : chkRgs l lim = 0) : Srt lim 0 l := by
  unfold chkRgs at h
  by_cases h1 : inB lim 0 100000 = false
  · simp [h1] at h
  · by_cases h2 : 2000 < l.length
    · simp [h1, h2] at h
    · simp only [h1, h2, if_false] at h
      exact rgF_srt (p := none) h
theorem f95_eq {k : Nat} (r : Rv) (hl : r.hv.length ≤ 1000000) (hk : r.hv.length + 4 < k) (K : List Rg → Option R) : f95 k r.st r.id r.nm r.dat r.hv r.sz r.sum r.wt r.tr K = K (holesF r.hv r.sz) := by
  rw [f95_def]
  obtain ⟨k, rfl⟩ := succ_of hk
  simp only [f95d, f126_eq (show r.hv.length + 2 < k by omega) hl]
def lackF (r : Rv) : List Rg := bif emp r.nm then (-1, (0, ())) :: holesF r.hv r.sz else holesF r.hv r.sz
end Go.Proofs.YtoepnomdklhhlaaGreat.PM
/- Plain laws of receivers: ticks. -/
set_option linter.unusedSimpArgs false
set_option linter.unusedVariables false
namespace Go.Proofs.YtoepnomdklhhlaaGreat.PM
open Go Go.Proofs.YtoepnomdklhhlaaGreat.Bt
variable {R : Type}

theorem f172_eq {k : Nat} (hk : 0 < k) {n : Int} (h0 : 0 ≤ n) (h1 : n ≤ 1000000000) (K : List Rg → Option R) : f172 k n K = K [] := by
  rw [f172_def]
  obtain ⟨k, rfl⟩ := succ_of hk
  have hd : decide (n < 0) = false := by simp only [decide_eq_false_iff_not]; omega
  simp only [f172d, f172_1000002_def, f172_1000002d, hd, cond_false, f172_1000005_def, f172_1000005d, Int.sub_zero]
  rw [wi (by omega) (by omega)]
  by_cases h : n > 0
  · have h2 : decide ((List.replicate n.toNat ((0, (0, ())) : Rg)).length ≤ LIM 16) = true := by rw [LIM16]; simp only [decide_eq_true_eq, List.length_replicate]; omega
    have h3 : decide (0 ≤ n) = true := by simp only [decide_eq_true_eq]; omega
    have h4 : decide (0 ≤ ((List.replicate n.toNat ((0, (0, ())) : Rg)).length : Int)) = true := by simp only [decide_eq_true_eq]; omega
    simp only [h, h2, h3, h4, decide_true, cond_true, Bool.and_self, List.take_zero]
  · simp only [h, decide_false, cond_false]
theorem f153_eq {k : Nat} (hk : 5 < k) (a b : List Rg) (ha : a.length ≤ 100000) (hb : b.length ≤ 100000) (K : List Rg → Option R) : f153 k [a, b] K = K (a ++ b) := by
  rw [f153_def]
  obtain ⟨k, rfl⟩ := succ_of hk
  obtain ⟨k, rfl⟩ := succ_of (show 2 < k by omega)
  obtain ⟨k, rfl⟩ := succ_of (show 1 < k by omega)
  obtain ⟨k, rfl⟩ := succ_of (show 0 < k by omega)
  have w0 : IntKind.i64.wrap (0 + (a.length : Int)) = (a.length : Int) := by rw [wi (by omega) (by omega)]; omega
  have w1 : IntKind.i64.wrap ((a.length : Int) + (b.length : Int)) = (a.length : Int) + (b.length : Int) := wi (by omega) (by omega)
  have n0 : decide ((a.length : Int) < 0) = false := by simp only [decide_eq_false_iff_not]; omega
  have n1 : decide ((a.length : Int) + (b.length : Int) < 0) = false := by simp only [decide_eq_false_iff_not]; omega
  have i1 : IntKind.i64.wrap (0 + 1) = 1 := by decide
  have i2 : IntKind.i64.wrap (1 + 1) = 2 := by decide
  have l1 : decide (([] : List Rg).length + a.length ≤ LIM 16) = true := by rw [LIM16]; simp only [decide_eq_true_eq, List.length_nil]; omega
  have l2 : decide (a.length + b.length ≤ LIM 16) = true := by rw [LIM16]; simp only [decide_eq_true_eq]; omega
  simp only [f153d, f153_0_def, f153_2_def, f153_1000007_def, f153_1000007d, f153_0d, f153_0b, f153_2d, f153_2b, List.length_cons, List.length_nil, i1, i2]
  simp only [show decide ((0 : Int) < ((0 + 1 + 1 : Nat) : Int)) = true from by decide, show decide ((1 : Int) < ((0 + 1 + 1 : Nat) : Int)) = true from by decide, show decide ((2 : Int) < ((0 + 1 + 1 : Nat) : Int)) = false from by decide,
    show decide ((0 : Int) ≤ 0) = true from by decide, show decide ((0 : Int) ≤ 1) = true from by decide, Bool.and_self, cond_true, cond_false, Int.toNat_zero, Int.toNat_one, List.getD_cons_zero, List.getD_cons_succ, w0, n0, w1, n1]
  rw [f172_eq (show 0 < k + 1 + 1 + 1 by omega) (by omega) (by omega)]
  simp only [List.nil_append, l1, l2, cond_true, List.length_nil]
  simp only [List.length_nil] at l1
  simp only [l1, cond_true]
theorem f128_eq {k : Nat} (hk : 8 < k) (l : List Rg) (hl : l.length ≤ 100000) (b : Bool) (K : List Rg → Option R) : f128 k l b K = K (bif b then (-1, (0, ())) :: l else l) := by
  rw [f128_def]
  obtain ⟨k, rfl⟩ := succ_of hk
  cases b
  · rfl
  · simp only [f128d, cond_true, f130_def]
    rw [show f130d (R := R) k = fun K => f130d k K from rfl]
    obtain ⟨k, rfl⟩ := succ_of (show 0 < k by omega)
    simp only [f130d]
    rw [f153_eq (show 5 < k + 1 by omega) _ _ (by simp) hl]
    rfl
theorem holes_cut {lim : Int} {l : List Rg} (hs : Srt lim 0 l) (e : Int) : headF (holesF l e) = false := by
  have hb := (lastT_bounds hs).1
  have : ∀ x ∈ holesF l e, 0 ≤ x.1 := by
    intro x hx
    unfold holesF at hx
    rcases List.mem_append.1 hx with hx | hx
    · exact (preF_rg hs x hx).1
    · split at hx
      · rw [List.mem_singleton] at hx; subst hx; exact hb
      · cases hx
  cases h : holesF l e with
  | nil => rfl
  | cons x r =>
    rw [h] at this
    have := this x (by simp)
    have h1 : ¬ x.1 = -1 := by omega
    simp [headF, h1]
theorem cutF_lack {lim : Int} (r : Rv) (hs : Srt lim 0 r.hv) : cutF (lackF r) = holesF r.hv r.sz := by
  have h := holes_cut hs r.sz
  unfold lackF
  rcases Bool.eq_false_or_eq_true (emp r.nm) with he | he
  · rw [he]; simp [cutF, headF]
  · rw [he]; simp [cutF, h]

/-! a tick of a receiver -/
def holeL (r : Rv) : Lt := (4, (r.id, (⟨#[]⟩, (0, (0, (0, ([], (lackF r, (false, ())))))))))
def stopR (r : Rv) : Lt := (6, (r.id, (⟨#[]⟩, (0, (0, (0, ([], ([], (false, ())))))))))
def tickR (wait most : Int) (r : Rv) : (Rv × List Lt) × Int :=
  if r.st ≠ 2 then ((r, []), 0) else if r.wt - 1 > 0 then (({ r with wt := r.wt - 1 }, []), 0)
  else if r.tr ≥ most then (({ r with st := 4, wt := r.wt - 1 }, [stopR r]), 0)
  else if 2000 < (holesF r.hv r.sz).length then ((zR, []), 2) else (({ r with wt := wait, tr := r.tr + 1 }, [holeL r]), 0)
def apRF (K : Int → Int → ByteArray → List Int → List Rg → Int → Int → Int → Int → Int → List Lt → Option R) (x : (Rv × List Lt) × Int) : Option R :=
  K x.1.1.st x.1.1.id x.1.1.nm x.1.1.dat x.1.1.hv x.1.1.sz x.1.1.sum x.1.1.wt x.1.1.tr x.2 x.1.2
structure RInv (r : Rv) : Prop where
  hl : r.hv.length ≤ 2000
  dl : (r.dat.length : Int) ≤ 100000
  wt : 0 ≤ r.wt ∧ r.wt ≤ 1000000
  tr : 0 ≤ r.tr ∧ r.tr ≤ 50
  sz : -1 ≤ r.sz
  asked : r.st = 2 → r.sz ≠ -1
  srt : ∃ lim, Srt lim 0 r.hv
theorem chkRecv_ok {r : Rv} (h : chkRecv r = 0) : RInv r := by
  unfold chkRecv at h
  by_cases h1 : inB r.id 0 65535 = false
  · simp [h1] at h
  by_cases h2 : inB r.st 0 4 = false
  · simp [h1, h2] at h
  by_cases h3 : emp r.nm = false ∧ nameOk r.nm = false
  · simp [h1, h2, h3] at h
  by_cases h4 : inB r.sz (-1) 100000 = false
  · simp [h1, h2, h3, h4] at h
  by_cases h5 : inB r.sum 0 4294967295 = false
  · simp [h1, h2, h3, h4, h5] at h
  by_cases h6 : inB r.wt 0 1000000 = false
  · simp [h1, h2, h3, h4, h5, h6] at h
  by_cases h7 : inB r.tr 0 50 = false
  · simp [h1, h2, h3, h4, h5, h6, h7] at h
  simp only [h1, h2, h3, h4, h5, h6, h7, if_false] at h
  by_cases h8 : chkRgs r.hv (if r.sz = -1 then 100000 else r.sz) = 0
  · simp only [h8, ne_eq, not_true_eq_false, if_false] at h
    by_cases h9 : formV r = 0
    · simp only [h9, ne_eq, not_true_eq_false, if_false] at h
      obtain ⟨c1, c2, c3⟩ := chkRgs_ok h8
      have hs := chkRgs_srt h8
      have hdl : (r.dat.length : Int) = lastT 0 r.hv := by
        unfold formV at h9
        by_cases q : (r.dat.length : Int) = lastT 0 r.hv
        · exact q
        · simp [q] at h9
      have := (lastT_bounds hs).2 c1.1
      refine ⟨c2, by omega, inB_iff.1 (by simpa using h6), inB_iff.1 (by simpa using h7), (inB_iff.1 (show inB r.sz (-1) 100000 = true by simpa using h4)).1, ?_, ⟨_, hs⟩⟩
      intro e1 e2
      simp [e1, e2, stB] at h
    · simp [h9] at h
  · simp [h8] at h
theorem f97_eq {k : Nat} (r : Rv) (hl : r.hv.length ≤ 2000) (hk : r.hv.length + 20 < k) (K : List Rg → Int → Option R) :
    f97 k r.st r.id r.nm r.dat r.hv r.sz r.sum r.wt r.tr K = if 2000 < (holesF r.hv r.sz).length then K [] 2 else K (lackF r) 0 := by
  rw [f97_def]
  obtain ⟨k, rfl⟩ := succ_of hk
  have hh := holesF_len r.hv r.sz
  have es : (r.nm.toList == (⟨#[]⟩ : ByteArray).toList) = emp r.nm := rfl
  have hd : decide (((holesF r.hv r.sz).length : Int) > 2000) = decide (2000 < (holesF r.hv r.sz).length) := by rw [Bool.eq_iff_iff]; simp only [decide_eq_true_eq]; omega
  simp only [f97d, f95_eq r (show r.hv.length ≤ 1000000 by omega) (show r.hv.length + 4 < k by omega), hd, es, f128_eq (show 8 < k by omega) (holesF r.hv r.sz) (by omega), lackF]
  by_cases h : 2000 < (holesF r.hv r.sz).length <;> simp [h]
theorem f65_eq {k : Nat} (a b c wait most : Int) (r : Rv) (hi : RInv r) (hk : 2100 < k) (K : Int → Int → ByteArray → List Int → List Rg → Int → Int → Int → Int → Int → List Lt → Option R) :
    f65 k a b c wait most r.st r.id r.nm r.dat r.hv r.sz r.sum r.wt r.tr K = apRF K (tickR wait most r) := by
  rw [f65_def]
  obtain ⟨k, rfl⟩ := succ_of hk
  have hl := hi.hl
  obtain ⟨w0, w1⟩ := hi.wt
  obtain ⟨t0, t1⟩ := hi.tr
  simp only [f65d, bne_dec, tickR]
  rw [wi (n := r.wt - 1) (by omega) (by omega), wi (n := r.tr + 1) (by omega) (by omega)]
  by_cases e : r.st = 2
  · by_cases e1 : r.wt - 1 > 0
    · simp only [e, e1, decide_true, Bool.not_true, cond_false, cond_true, ne_eq, not_true_eq_false, if_true, if_false]; simp only [apRF, e]
    · by_cases e2 : r.tr ≥ most
      · simp only [e, e1, e2, decide_true, decide_false, Bool.not_true, cond_false, cond_true, ne_eq, not_true_eq_false, if_true, if_false]; simp only [apRF, stopR]
      · simp only [e, e1, e2, decide_true, decide_false, Bool.not_true, cond_false, ne_eq, not_true_eq_false, if_false]
        have h112 := f97_eq (R := R) (k := k) ⟨2, r.id, r.nm, r.dat, r.hv, r.sz, r.sum, r.wt - 1, r.tr⟩ hl (by show r.hv.length + 20 < k; omega)
        simp only at h112
        rw [h112]
        have hq : lackF ⟨2, r.id, r.nm, r.dat, r.hv, r.sz, r.sum, r.wt - 1, r.tr⟩ = lackF r := rfl
        by_cases e3 : 2000 < (holesF r.hv r.sz).length
        · simp [e3, apRF, zR]
        · simp [e3, apRF, holeL, hq, e]
  · simp [e, apRF]
noncomputable def stepR (a b c d e : Int) (r : Rv) : (Rv × List Lt) × Int :=
  if chkFig a b c d e ≠ 0 then ((zR, []), chkFig a b c d e) else if chkRecv r ≠ 0 then ((zR, []), chkRecv r) else tickR d e r
noncomputable def anewF (r : Rv) : Rv × Int := if chkRecv r ≠ 0 then (zR, chkRecv r) else ({ r with st := if r.st = 2 then 1 else r.st, wt := 0, tr := 0 }, 0)
theorem lackF_len (r : Rv) : (lackF r).length ≤ (holesF r.hv r.sz).length + 1 := by unfold lackF; cases emp r.nm <;> simp
theorem stepR_ok (a b c d e : Int) (r : Rv) : (stepR a b c d e r).1.1.hv.length ≤ 2000 ∧ (∀ x ∈ (stepR a b c d e r).1.2, x.2.2.2.2.2.2.2.1.length ≤ 3000) ∧ (stepR a b c d e r).1.2.length ≤ 1 := by
  by_cases h1 : chkFig a b c d e = 0
  · by_cases h2 : chkRecv r = 0
    · have hl := (chkRecv_ok h2).hl
      have hv : stepR a b c d e r = tickR d e r := by simp [stepR, h1, h2]
      rw [hv]
      unfold tickR
      split
      · exact ⟨hl, by simp, by simp⟩
      · split
        · exact ⟨hl, by simp, by simp⟩
        · split
          · exact ⟨hl, by simp [stopR], by simp⟩
          · split
            · exact ⟨by simp [zR], by simp, by simp⟩
            · refine ⟨hl, ?_, by simp⟩
              intro x hx
              rw [List.mem_singleton] at hx
              subst hx
              have := lackF_len r
              show (lackF r).length ≤ 3000
              omega
    · have hv : stepR a b c d e r = ((zR, []), chkRecv r) := by simp [stepR, h1, h2]
      rw [hv]; exact ⟨by simp [zR], by simp, by simp⟩
  · have hv : stepR a b c d e r = ((zR, []), chkFig a b c d e) := by simp [stepR, h1]
    rw [hv]; exact ⟨by simp [zR], by simp, by simp⟩
theorem anewF_len (r : Rv) : (anewF r).1.hv.length ≤ 2000 := by
  by_cases h2 : chkRecv r = 0
  · have hl := (chkRecv_ok h2).hl
    simpa [anewF, h2] using hl
  · simp [anewF, h2, zR]
end Go.Proofs.YtoepnomdklhhlaaGreat.PM
/- Plain laws of spans: what is joined. -/
set_option linter.unusedSimpArgs false
set_option linter.unusedVariables false
namespace Go.Proofs.YtoepnomdklhhlaaGreat.PM
open Go Go.Proofs.YtoepnomdklhhlaaGreat.Bt
variable {R : Type}

def mxI (a b : Int) : Int := if a < b then b else a
/-- One span more. -/
def swl : Rg → List Rg → List Rg
  | c, [] => [c]
  | c, x :: l => if x.1 ≤ c.2.1 then swl (c.1, (mxI c.2.1 x.2.1, ())) l else c :: swl x l
def sweep : List Rg → List Rg
  | [] => []
  | x :: l => swl x l
def Ne (l : List Rg) : Prop := ∀ x ∈ l, x.1 < x.2.1
def Up (l : List Rg) : Prop := l.Pairwise fun x y => x.1 ≤ y.1
theorem inR_cons {x : Rg} {l : List Rg} {j : Int} : inR (x :: l) j ↔ (x.1 ≤ j ∧ j < x.2.1) ∨ inR l j := by
  constructor
  · rintro ⟨y, hy, h⟩
    rcases List.mem_cons.1 hy with rfl | hy
    · exact Or.inl h
    · exact Or.inr ⟨y, hy, h⟩
  · rintro (h | ⟨y, hy, h⟩)
    · exact ⟨x, by simp, h⟩
    · exact ⟨y, by simp [hy], h⟩
theorem inR_app {l m : List Rg} {j : Int} : inR (l ++ m) j ↔ inR l j ∨ inR m j := by
  constructor
  · rintro ⟨y, hy, h⟩
    rcases List.mem_append.1 hy with hy | hy
    · exact Or.inl ⟨y, hy, h⟩
    · exact Or.inr ⟨y, hy, h⟩
  · rintro (⟨y, hy, h⟩ | ⟨y, hy, h⟩)
    · exact ⟨y, by simp [hy], h⟩
    · exact ⟨y, by simp [hy], h⟩
theorem inR_perm {l m : List Rg} (h : l.Perm m) {j : Int} : inR l j ↔ inR m j := by
  constructor
  · rintro ⟨y, hy, hj⟩; exact ⟨y, h.mem_iff.1 hy, hj⟩
  · rintro ⟨y, hy, hj⟩; exact ⟨y, h.mem_iff.2 hy, hj⟩
/-- Lists of spans apart from each other, in order. -/
def Can : Int → List Rg → Prop
  | _, [] => True
  | a, x :: l => a < x.1 ∧ x.1 < x.2.1 ∧ Can x.2.1 l
theorem can_low : ∀ {a : Int} {l : List Rg}, Can a l → ∀ x ∈ l, a < x.1 ∧ x.1 < x.2.1
  | _, [], _, x, hx => by cases hx
  | a, y :: l, ⟨h1, h2, h3⟩, x, hx => by
    rcases List.mem_cons.1 hx with rfl | hx
    · exact ⟨h1, h2⟩
    · have := can_low h3 x hx
      exact ⟨by omega, this.2⟩
theorem can_in {a : Int} {l : List Rg} (h : Can a l) {j : Int} (hj : inR l j) : a < j := by
  obtain ⟨x, hx, h1, h2⟩ := hj
  have := can_low h x hx
  omega
theorem can_eq : ∀ {a : Int} {l m : List Rg}, Can a l → Can a m → (∀ j, inR l j ↔ inR m j) → l = m
  | _, [], [], _, _, _ => rfl
  | a, [], y :: m, _, ⟨_, h2, _⟩, h => by
    obtain ⟨z, hz, _⟩ := (h y.1).2 ⟨y, by simp, by omega, h2⟩
    cases hz
  | a, x :: l, [], ⟨_, h2, _⟩, _, h => by
    obtain ⟨z, hz, _⟩ := (h x.1).1 ⟨x, by simp, by omega, h2⟩
    cases hz
  | a, x :: l, y :: m, ⟨x1, x2, x3⟩, ⟨y1, y2, y3⟩, h => by
    have e1 : x.1 = y.1 := by
      have p := (h x.1).1 ⟨x, by simp, by omega, x2⟩
      have q := (h y.1).2 ⟨y, by simp, by omega, y2⟩
      rw [inR_cons] at p q
      have p' : y.1 ≤ x.1 := by
        rcases p with p | p
        · exact p.1
        · have := can_in y3 p; omega
      have q' : x.1 ≤ y.1 := by
        rcases q with q | q
        · exact q.1
        · have := can_in x3 q; omega
      omega
    have e2 : x.2.1 = y.2.1 := by
      have no1 : ¬ inR (x :: l) x.2.1 := by
        rw [inR_cons]
        rintro (p | p)
        · omega
        · have := can_in x3 p; omega
      have no2 : ¬ inR (y :: m) y.2.1 := by
        rw [inR_cons]
        rintro (p | p)
        · omega
        · have := can_in y3 p; omega
      by_cases c1 : x.2.1 < y.2.1
      · exact absurd ((h x.2.1).2 ⟨y, by simp, by omega, c1⟩) no1
      · by_cases c2 : y.2.1 < x.2.1
        · exact absurd ((h y.2.1).1 ⟨x, by simp, by omega, c2⟩) no2
        · omega
    have exy : x = y := Prod.ext e1 (Prod.ext e2 rfl)
    subst exy
    have : l = m := can_eq x3 y3 fun j => by
      have hj := h j
      rw [inR_cons, inR_cons] at hj
      constructor
      · intro p
        rcases hj.1 (Or.inr p) with q | q
        · have := can_in x3 p; omega
        · exact q
      · intro p
        rcases hj.2 (Or.inr p) with q | q
        · have := can_in y3 p; omega
        · exact q
    rw [this]
theorem swl_can : ∀ {a : Int} {c : Rg} {l : List Rg}, a < c.1 → c.1 < c.2.1 → Ne l → (∀ x ∈ l, c.1 ≤ x.1) → Up l → Can a (swl c l)
  | a, c, [], h1, h2, _, _, _ => ⟨h1, h2, trivial⟩
  | a, c, x :: l, h1, h2, hn, hc, hu => by
    have hx := hn x (by simp)
    have hcx := hc x (by simp)
    rw [Up, List.pairwise_cons] at hu
    simp only [swl]
    split
    · refine swl_can (c := (c.1, (mxI c.2.1 x.2.1, ()))) h1 ?_ (fun y hy => hn y (by simp [hy])) (fun y hy => hc y (by simp [hy])) hu.2
      show c.1 < mxI c.2.1 x.2.1
      unfold mxI; split <;> omega
    · exact ⟨h1, h2, swl_can (by omega) hx (fun y hy => hn y (by simp [hy])) (fun y hy => hu.1 y hy) hu.2⟩
theorem swl_in : ∀ {c : Rg} {l : List Rg}, c.1 < c.2.1 → Ne l → (∀ x ∈ l, c.1 ≤ x.1) → Up l → ∀ j, inR (swl c l) j ↔ inR (c :: l) j
  | c, [], _, _, _, _, j => Iff.rfl
  | c, x :: l, h2, hn, hc, hu, j => by
    have hx := hn x (by simp)
    have hcx := hc x (by simp)
    rw [Up, List.pairwise_cons] at hu
    simp only [swl]
    split
    · rename_i hle
      have hm : c.1 < mxI c.2.1 x.2.1 := by unfold mxI; split <;> omega
      rw [swl_in (c := (c.1, (mxI c.2.1 x.2.1, ()))) hm (fun y hy => hn y (by simp [hy])) (fun y hy => hc y (by simp [hy])) hu.2 j, inR_cons, inR_cons, inR_cons]
      have : (c.1 ≤ j ∧ j < mxI c.2.1 x.2.1) ↔ ((c.1 ≤ j ∧ j < c.2.1) ∨ (x.1 ≤ j ∧ j < x.2.1)) := by
        unfold mxI
        split <;> constructor <;> omega
      rw [show ((c.1, (mxI c.2.1 x.2.1, ())) : Rg).1 = c.1 from rfl, show ((c.1, (mxI c.2.1 x.2.1, ())) : Rg).2.1 = mxI c.2.1 x.2.1 from rfl, this, or_assoc]
    · rw [inR_cons, swl_in hx (fun y hy => hn y (by simp [hy])) (fun y hy => hu.1 y hy) hu.2 j, inR_cons (x := c)]
theorem sweep_can {a : Int} {l : List Rg} (hl : ∀ x ∈ l, a < x.1) (hn : Ne l) (hu : Up l) : Can a (sweep l) := by
  cases l with
  | nil => trivial
  | cons x l =>
    have hu' := hu
    rw [Up, List.pairwise_cons] at hu'
    exact swl_can (hl x (by simp)) (hn x (by simp)) (fun y hy => hn y (by simp [hy])) hu'.1 hu'.2
theorem sweep_in {l : List Rg} (hn : Ne l) (hu : Up l) (j : Int) : inR (sweep l) j ↔ inR l j := by
  cases l with
  | nil => exact Iff.rfl
  | cons x l =>
    have hu' := hu
    rw [Up, List.pairwise_cons] at hu'
    exact swl_in (hn x (by simp)) (fun y hy => hn y (by simp [hy])) hu'.1 hu'.2 j
theorem swl_len : ∀ (c : Rg) (l : List Rg), (swl c l).length ≤ l.length + 1
  | c, [] => by simp [swl]
  | c, x :: l => by
    simp only [swl]
    split
    · have := swl_len (c.1, (mxI c.2.1 x.2.1, ())) l; simp only [List.length_cons]; omega
    · have := swl_len x l; simp only [List.length_cons]; omega
theorem sweep_len (l : List Rg) : (sweep l).length ≤ l.length := by
  cases l with
  | nil => simp [sweep]
  | cons x l => have := swl_len x l; simp only [sweep, List.length_cons]; omega

/-! the walk over a list -/
def stp (o : List Rg) (x : Rg) : List Rg := match o.getLast? with
  | some c => if x.1 ≤ c.2.1 then o.dropLast ++ [(c.1, (mxI c.2.1 x.2.1, ()))] else o ++ [x]
  | none => [x]
def swO (o : List Rg) : List Rg → List Rg
  | [] => o
  | x :: l => swO (stp o x) l
theorem swO_swl : ∀ (l : List Rg) (p : List Rg) (c : Rg), swO (p ++ [c]) l = p ++ swl c l
  | [], p, c => rfl
  | x :: l, p, c => by
    have h : stp (p ++ [c]) x = if x.1 ≤ c.2.1 then p ++ [(c.1, (mxI c.2.1 x.2.1, ()))] else (p ++ [c]) ++ [x] := by simp [stp]
    simp only [swO, swl]
    rw [h]
    split
    · exact swO_swl l p _
    · rw [swO_swl l (p ++ [c]) x, List.append_assoc]; rfl
theorem swO_sweep (l : List Rg) : swO [] l = sweep l := by
  cases l with
  | nil => rfl
  | cons x l => exact swO_swl l [] x
theorem stp_len (o : List Rg) (x : Rg) : (stp o x).length ≤ o.length + 1 := by
  unfold stp
  cases h : o.getLast? with
  | none => simp
  | some c =>
    have : 0 < o.length := by cases o with | nil => simp at h | cons a l => simp
    simp only
    split
    · simp only [List.length_append, List.length_dropLast, List.length_singleton]; omega
    · simp
theorem step_len {o : List Rg} {x : Rg} : o.length ≤ 100000 → (stp o x).length ≤ o.length + 1 := fun _ => stp_len o x
/-- What the code does with one span. -/
theorem code_step (o : List Rg) (x : Rg) (ho : o.length ≤ 1000000) (X : List Rg → Option R) :
    (bif (decide ((o.length : Int) > 0) == true) then (bif (decide (0 ≤ IntKind.i64.wrap ((o.length : Int) - 1)) && decide (IntKind.i64.wrap ((o.length : Int) - 1) < (o.length : Int))) then
        (bif decide (x.1 ≤ ((o.getD (Int.toNat (IntKind.i64.wrap ((o.length : Int) - 1))) (0, (0, ()))).2).1) then
          (bif (decide (0 ≤ IntKind.i64.wrap ((o.length : Int) - 1)) && decide (IntKind.i64.wrap ((o.length : Int) - 1) < (o.length : Int))) then (bif (decide (0 ≤ IntKind.i64.wrap ((o.length : Int) - 1)) && decide (IntKind.i64.wrap ((o.length : Int) - 1) < (o.length : Int))) then
            X (o.set (Int.toNat (IntKind.i64.wrap ((o.length : Int) - 1))) ((o.getD (Int.toNat (IntKind.i64.wrap ((o.length : Int) - 1))) (0, (0, ()))).1, ((if ((o.getD (Int.toNat (IntKind.i64.wrap ((o.length : Int) - 1))) (0, (0, ()))).2).1 < x.2.1 then x.2.1 else ((o.getD (Int.toNat (IntKind.i64.wrap ((o.length : Int) - 1))) (0, (0, ()))).2).1), ()))) else none) else none)
          else (bif decide (o.length + ([(x.1, (x.2.1, ()))] : List Rg).length ≤ LIM 16) then X (o ++ [(x.1, (x.2.1, ()))]) else none)) else none)
      else (bif decide (o.length + ([(x.1, (x.2.1, ()))] : List Rg).length ≤ LIM 16) then X (o ++ [(x.1, (x.2.1, ()))]) else none)) = X (stp o x) := by
  have hL : decide (o.length + ([(x.1, (x.2.1, ()))] : List Rg).length ≤ LIM 16) = true := by rw [LIM16]; simp only [decide_eq_true_eq, List.length_singleton]; omega
  have hx : ((x.1, (x.2.1, ())) : Rg) = x := rfl
  rw [hL, hx]
  rcases List.eq_nil_or_concat o with rfl | ⟨p, c, rfl⟩
  · rfl
  · rw [List.concat_eq_append] at *
    have hlen : (p ++ [c]).length = p.length + 1 := by simp
    have ho' : p.length + 1 ≤ 1000000 := by rw [← hlen]; exact ho
    have hw : IntKind.i64.wrap (((p ++ [c]).length : Int) - 1) = (p.length : Int) := by rw [hlen, wi (by omega) (by omega)]; omega
    have h1 : (decide (((p ++ [c]).length : Int) > 0) == true) = true := by simp only [beq_iff_eq, decide_eq_true_eq, hlen]; omega
    have h2 : (decide (0 ≤ (p.length : Int)) && decide ((p.length : Int) < ((p ++ [c]).length : Int))) = true := by simp only [Bool.and_eq_true, decide_eq_true_eq, hlen]; omega
    have hg : (p ++ [c]).getD p.length (0, (0, ())) = c := by simp [List.getD_eq_getElem?_getD]
    have hs : ∀ z : Rg, (p ++ [c]).set p.length z = p ++ [z] := fun z => by simp
    simp only [hw, h1, h2, cond_true, Int.toNat_natCast, hg, hs]
    have h : stp (p ++ [c]) x = if x.1 ≤ c.2.1 then p ++ [(c.1, (mxI c.2.1 x.2.1, ()))] else (p ++ [c]) ++ [x] := by simp [stp]
    rw [h]
    by_cases q : x.1 ≤ c.2.1
    · simp only [q, decide_true, cond_true, if_true, mxI]
    · simp only [q, decide_false, cond_false, if_false]
end Go.Proofs.YtoepnomdklhhlaaGreat.PM
/- Plain laws of spans: the code and the reference. -/
set_option linter.unusedSimpArgs false
set_option linter.unusedVariables false
namespace Go.Proofs.YtoepnomdklhhlaaGreat.PM
open Go Go.Proofs.YtoepnomdklhhlaaGreat.Bt
variable {R : Type}

theorem f127_loop (k : Nat) (x0 : List Rg → Option R) (l : List Rg) (hl : l.length ≤ 100000) : ∀ (d f i : Nat) (o : List Rg), i + d = l.length → d < f → o.length ≤ i →
    f127_0d k x0 (l.length : Int) l f (i : Int) o = x0 (swO o (l.drop i)) := by
  intro d
  induction d with
  | zero =>
    intro f i o hi hf ho
    obtain ⟨f, rfl⟩ := succ_of hf
    have h1 : decide ((i : Int) < (l.length : Int)) = false := by simp only [decide_eq_false_iff_not]; omega
    simp only [f127_0d, f127_0b, h1, cond_false]
    rw [List.drop_of_length_le (by omega)]
    rfl
  | succ d ih =>
    intro f i o hi hf ho
    obtain ⟨f, rfl⟩ := succ_of hf
    have h1 : decide ((i : Int) < (l.length : Int)) = true := by simp only [decide_eq_true_eq]; omega
    have h0 : decide ((0 : Int) ≤ (i : Int)) = true := by simp
    have hw : IntKind.i64.wrap ((i : Int) + 1) = ((i + 1 : Nat) : Int) := by rw [wi (by omega) (by omega)]; omega
    have hli : i < l.length := by omega
    have hg : l.getD (Int.toNat (i : Int)) (0, (0, ())) = l[i] := getD_in hli
    simp only [f127_0d, f127_0b, hg, h1, h0, cond_true, Bool.and_self, hw, f127_1000009_def, f127_1000009d, cond_false]
    rw [List.drop_eq_getElem_cons hli]
    refine (code_step o l[i] (by omega) (fun y => f127_0d k x0 (l.length : Int) l f ((i + 1 : Nat) : Int) y)).trans ?_
    have := stp_len o l[i]
    exact ih f (i + 1) _ (by omega) (by omega) (by omega)
noncomputable def jn (a b : List Rg) : List Rg := sweep (srtL (a ++ b))
theorem f127_eq {k : Nat} {a b : List Rg} (ha : a.length ≤ 2000) (hb : b.length ≤ 2000) (hs : sortOk (a ++ b) = true) (hk : 5000 < k) (K : List Rg → Option R) : f127 k a b K = K (jn a b) := by
  rw [f127_def]
  obtain ⟨k, rfl⟩ := succ_of (show 0 < k by omega)
  have hl : (srtL (a ++ b)).length = (a ++ b).length := srtL_len _
  have hap : (a ++ b).length = a.length + b.length := List.length_append
  simp only [f127d, f153_eq (show 5 < k by omega) a b (by omega) (by omega), f154_def]
  obtain ⟨k, rfl⟩ := succ_of (show 0 < k by omega)
  simp only [f154d, hs, cond_true, hl, decide_true, Bool.and_self, f127_0_def]
  rw [← hl]
  exact (f127_loop (k + 1) _ (srtL (a ++ b)) (by omega) (srtL (a ++ b)).length (k + 1) 0 [] (by omega) (by omega) (by simp)).trans (by rw [List.drop_zero, swO_sweep]; rfl)

/-! the reference's merging -/
def mg : Nat → List Rg → List Rg → List Rg
  | 0, _, _ => []
  | _ + 1, [], [] => []
  | n + 1, x :: a, [] => x :: mg n a []
  | n + 1, [], y :: b => y :: mg n [] b
  | n + 1, x :: a, y :: b => if x.1 ≤ y.1 then x :: mg n a (y :: b) else y :: mg n (x :: a) b
theorem mg_perm : ∀ (n : Nat) (a b : List Rg), a.length + b.length ≤ n → (mg n a b).Perm (a ++ b)
  | 0, a, b, h => by
    have h1 : a = [] := List.length_eq_zero_iff.1 (by omega)
    have h2 : b = [] := List.length_eq_zero_iff.1 (by omega)
    subst h1; subst h2; exact List.Perm.refl _
  | n + 1, [], [], h => List.Perm.refl _
  | n + 1, x :: a, [], h => by
    simp only [mg, List.cons_append]
    exact List.Perm.cons x (mg_perm n a [] (by simp only [List.length_cons, List.length_nil] at *; omega))
  | n + 1, [], y :: b, h => by
    simp only [mg, List.nil_append]
    exact List.Perm.cons y (mg_perm n [] b (by simp only [List.length_cons, List.length_nil] at *; omega))
  | n + 1, x :: a, y :: b, h => by
    simp only [mg]
    split
    · exact List.Perm.cons x (mg_perm n a (y :: b) (by simp only [List.length_cons] at *; omega))
    · exact (List.Perm.cons y (mg_perm n (x :: a) b (by simp only [List.length_cons] at *; omega))).trans List.perm_middle.symm
theorem mg_up : ∀ (n : Nat) (a b : List Rg), a.length + b.length ≤ n → Up a → Up b → Up (mg n a b)
  | 0, a, b, h, _, _ => List.Pairwise.nil
  | n + 1, [], [], h, _, _ => List.Pairwise.nil
  | n + 1, x :: a, [], h, ha, hb => by
    rw [Up, List.pairwise_cons] at ha
    simp only [mg]
    have hn : a.length + ([] : List Rg).length ≤ n := by simp only [List.length_cons, List.length_nil] at *; omega
    refine List.pairwise_cons.2 ⟨fun y hy => ?_, mg_up n a [] hn ha.2 hb⟩
    have := (mg_perm n a [] hn).mem_iff.1 hy
    rw [List.append_nil] at this
    exact ha.1 y this
  | n + 1, [], y :: b, h, ha, hb => by
    rw [Up, List.pairwise_cons] at hb
    simp only [mg]
    have hn : ([] : List Rg).length + b.length ≤ n := by simp only [List.length_cons, List.length_nil] at *; omega
    refine List.pairwise_cons.2 ⟨fun z hz => ?_, mg_up n [] b hn ha hb.2⟩
    exact hb.1 z ((mg_perm n [] b hn).mem_iff.1 hz)
  | n + 1, x :: a, y :: b, h, ha, hb => by
    have ha' := ha
    have hb' := hb
    rw [Up, List.pairwise_cons] at ha hb
    simp only [mg]
    split
    · rename_i q
      have hn : a.length + (y :: b).length ≤ n := by simp only [List.length_cons] at *; omega
      refine List.pairwise_cons.2 ⟨fun z hz => ?_, mg_up n a (y :: b) hn ha.2 hb'⟩
      rcases List.mem_append.1 ((mg_perm n a (y :: b) hn).mem_iff.1 hz) with hz | hz
      · exact ha.1 z hz
      · rcases List.mem_cons.1 hz with rfl | hz
        · exact q
        · have := hb.1 z hz; omega
    · rename_i q
      have hn : (x :: a).length + b.length ≤ n := by simp only [List.length_cons] at *; omega
      refine List.pairwise_cons.2 ⟨fun z hz => ?_, mg_up n (x :: a) b hn ha' hb.2⟩
      rcases List.mem_append.1 ((mg_perm n (x :: a) b hn).mem_iff.1 hz) with hz | hz
      · rcases List.mem_cons.1 hz with rfl | hz
        · omega
        · have := ha.1 z hz; omega
      · exact hb.1 z hz
/-! what is checked -/
theorem rgF_can {lim : Int} : ∀ {p : Option Int} {l : List Rg}, rgF lim p l = 0 → Can (p.getD (-1)) l
  | _, [], _ => trivial
  | p, y :: l, h => by
    simp only [rgF] at h
    by_cases q1 : y.1 < 0
    · simp [q1] at h
    by_cases q2 : y.2.1 > lim
    · simp [q1, q2] at h
    by_cases q3 : y.2.1 ≤ y.1
    · simp [q1, q2, q3] at h
    cases p with
    | none => exact ⟨by show (-1 : Int) < y.1; omega, by omega, rgF_can (p := some y.2.1) (by simpa [q1, q2, q3] using h)⟩
    | some e =>
      by_cases q4 : y.1 ≤ e
      · simp [q1, q2, q3, q4] at h
      · exact ⟨by show e < y.1; omega, by omega, rgF_can (p := some y.2.1) (by simpa [q1, q2, q3, q4] using h)⟩
theorem can_rgF {lim : Int} : ∀ {p : Option Int} {l : List Rg}, (∀ e, p = some e → -1 ≤ e) → Can (p.getD (-1)) l → (∀ x ∈ l, x.2.1 ≤ lim) → rgF lim p l = 0
  | _, [], _, _, _ => rfl
  | p, y :: l, hp, ⟨h1, h2, h3⟩, hl => by
    have hy := hl y (by simp)
    have hy0 : 0 ≤ y.1 := by
      cases p with
      | none => have h1' : (-1 : Int) < y.1 := h1; omega
      | some e => have := hp e rfl; have h1' : e < y.1 := h1; omega
    have ih := can_rgF (p := some y.2.1) (l := l) (fun e he => by cases he; omega) h3 (fun x hx => hl x (by simp [hx]))
    have q1 : ¬ y.1 < 0 := by omega
    have q2 : ¬ y.2.1 > lim := by omega
    have q3 : ¬ y.2.1 ≤ y.1 := by omega
    cases p with
    | none => simp [rgF, q1, q2, q3, ih]
    | some e =>
      have h1' : e < y.1 := h1
      have q4 : ¬ y.1 ≤ e := by omega
      simp [rgF, q1, q2, q3, q4, ih]
structure LOk (lim : Int) (l : List Rg) : Prop where
  bnd : 0 ≤ lim ∧ lim ≤ 100000
  len : l.length ≤ 2000
  can : Can (-1) l
  upto : ∀ x ∈ l, x.2.1 ≤ lim
theorem chk_ok {lim : Int} {l : List Rg} (h : chkRgs l lim = 0) : LOk lim l := by
  unfold chkRgs at h
  by_cases h1 : inB lim 0 100000 = false
  · simp [h1] at h
  · by_cases h2 : 2000 < l.length
    · simp [h1, h2] at h
    · simp only [h1, h2, if_false] at h
      refine ⟨inB_iff.1 (by simpa using h1), by omega, rgF_can (p := none) h, fun x hx => ?_⟩
      have : ∀ (a : Int) (m : List Rg), Srt lim a m → ∀ y ∈ m, y.2.1 ≤ lim := by
        intro a m
        induction m generalizing a with
        | nil => intro _ y hy; cases hy
        | cons z m ih =>
          rintro ⟨s1, s2, s3, s4⟩ y hy
          rcases List.mem_cons.1 hy with rfl | hy
          · exact s3
          · exact ih _ s4 y hy
      exact this _ l (rgF_srt (p := none) h) x hx
theorem ok_chk {lim : Int} {l : List Rg} (h : LOk lim l) : chkRgs l lim = 0 := by
  unfold chkRgs
  have h1 : inB lim 0 100000 = true := inB_iff.2 h.bnd
  rw [h1, if_neg (by simp), if_neg (by have := h.len; omega)]
  exact can_rgF (p := none) (fun e he => by cases he) h.can h.upto
theorem LOk.ne {lim : Int} {l : List Rg} (h : LOk lim l) : Ne l := fun x hx => (can_low h.can x hx).2
theorem LOk.low {lim : Int} {l : List Rg} (h : LOk lim l) : ∀ x ∈ l, -1 < x.1 := fun x hx => (can_low h.can x hx).1
theorem can_up : ∀ {a : Int} {l : List Rg}, Can a l → Up l
  | _, [], _ => List.Pairwise.nil
  | a, x :: l, ⟨h1, h2, h3⟩ => List.pairwise_cons.2 ⟨fun y hy => by have := (can_low h3 y hy).1; omega, can_up h3⟩
theorem sortOk_of {lim : Int} {a b : List Rg} (ha : LOk lim a) (hb : LOk lim b) : sortOk (a ++ b) = true := by
  have l1 := ha.len
  have l2 := hb.len
  have hlim := ha.bnd
  simp only [sortOk, Bool.and_eq_true, List.all_eq_true, decide_eq_true_eq, List.length_append]
  refine ⟨fun x hx => ?_, by omega⟩
  have : -1 < x.1 ∧ x.1 < x.2.1 ∧ x.2.1 ≤ lim := by
    rcases List.mem_append.1 hx with hx | hx
    · exact ⟨ha.low x hx, ha.ne x hx, ha.upto x hx⟩
    · exact ⟨hb.low x hx, hb.ne x hx, hb.upto x hx⟩
  simp only [spOk, Bool.and_eq_true, decide_eq_true_eq]
  omega
section
variable {lim : Int} {a b : List Rg}
theorem jn_perm (ha : LOk lim a) (hb : LOk lim b) : (srtL (a ++ b)).Perm (a ++ b) := srtL_perm (sortOk_of ha hb)
theorem jn_facts (ha : LOk lim a) (hb : LOk lim b) : Ne (srtL (a ++ b)) ∧ (∀ x ∈ srtL (a ++ b), -1 < x.1) := by
  have hp := jn_perm ha hb
  refine ⟨fun x hx => ?_, fun x hx => ?_⟩
  · rcases List.mem_append.1 (hp.mem_iff.1 hx) with h | h
    · exact ha.ne x h
    · exact hb.ne x h
  · rcases List.mem_append.1 (hp.mem_iff.1 hx) with h | h
    · exact ha.low x h
    · exact hb.low x h
theorem jn_can (ha : LOk lim a) (hb : LOk lim b) : Can (-1) (jn a b) := sweep_can (jn_facts ha hb).2 (jn_facts ha hb).1 (srtL_asc _)
theorem jn_in (ha : LOk lim a) (hb : LOk lim b) (j : Int) : inR (jn a b) j ↔ (inR a j ∨ inR b j) := by
  unfold jn
  rw [sweep_in (jn_facts ha hb).1 (srtL_asc _), inR_perm (jn_perm ha hb), inR_app]
theorem jn_to (ha : LOk lim a) (hb : LOk lim b) : ∀ x ∈ jn a b, x.2.1 ≤ lim := by
  intro x hx
  have hx2 := can_low (jn_can ha hb) x hx
  have := (jn_in ha hb (x.2.1 - 1)).1 ⟨x, hx, by omega, by omega⟩
  rcases this with ⟨y, hy, h1, h2⟩ | ⟨y, hy, h1, h2⟩
  · have := ha.upto y hy; omega
  · have := hb.upto y hy; omega
theorem jn_ok (ha : LOk lim a) (hb : LOk lim b) (hl : (jn a b).length ≤ 2000) : LOk lim (jn a b) := ⟨ha.bnd, hl, jn_can ha hb, jn_to ha hb⟩
theorem jn_mg (ha : LOk lim a) (hb : LOk lim b) : sweep (mg (a.length + b.length) a b) = jn a b := by
  have hp := mg_perm (a.length + b.length) a b (Nat.le_refl _)
  have hu := mg_up (a.length + b.length) a b (Nat.le_refl _) (can_up ha.can) (can_up hb.can)
  have hn : Ne (mg (a.length + b.length) a b) := fun x hx => by
    rcases List.mem_append.1 (hp.mem_iff.1 hx) with h | h
    · exact ha.ne x h
    · exact hb.ne x h
  have hlow : ∀ x ∈ mg (a.length + b.length) a b, -1 < x.1 := fun x hx => by
    rcases List.mem_append.1 (hp.mem_iff.1 hx) with h | h
    · exact ha.low x h
    · exact hb.low x h
  refine can_eq (a := -1) (sweep_can hlow hn hu) (jn_can ha hb) fun j => ?_
  rw [sweep_in hn hu, inR_perm hp, inR_app, jn_in ha hb]
end
noncomputable def jnF (a b : List Rg) (n : Int) : Int × List Rg := if chkRgs a n ≠ 0 then (chkRgs a n, []) else if chkRgs b n ≠ 0 then (chkRgs b n, []) else if 2000 < (jn a b).length then (2, []) else (0, jn a b)
theorem d2000 (n : Nat) : decide ((n : Int) > 2000) = decide (2000 < n) := by rw [Bool.eq_iff_iff]; simp only [decide_eq_true_eq]; omega
noncomputable def hlF (a : List Rg) (n : Int) : Int × List Rg := if chkRgs a n ≠ 0 then (chkRgs a n, []) else if 2000 < (holesF a n).length then (2, []) else (0, holesF a n)
theorem jnF_len (a b : List Rg) (n : Int) : (jnF a b n).2.length ≤ 2000 := by
  unfold jnF
  split
  · simp
  · split
    · simp
    · split
      · simp
      · show (jn a b).length ≤ 2000; omega
theorem hlF_len (a : List Rg) (n : Int) : (hlF a n).2.length ≤ 2000 := by
  unfold hlF
  split
  · simp
  · split
    · simp
    · show (holesF a n).length ≤ 2000; omega
end Go.Proofs.YtoepnomdklhhlaaGreat.PM
/- Plain laws of spans: joining is even, spans and holes make the whole. -/
set_option linter.unusedSimpArgs false
set_option linter.unusedVariables false
namespace Go.Proofs.YtoepnomdklhhlaaGreat.PM
open Go Go.Proofs.YtoepnomdklhhlaaGreat.Bt
variable {R : Type}

/-! how many places spans have -/
def hold : List Rg → Int
  | [] => 0
  | x :: l => (x.2.1 - x.1) + hold l
theorem hold_app : ∀ (l m : List Rg), hold (l ++ m) = hold l + hold m
  | [], m => by simp [hold]
  | x :: l, m => by simp only [List.cons_append, hold, hold_app l m]; omega
theorem hold_perm {l m : List Rg} (h : l.Perm m) : hold l = hold m := by
  induction h with
  | nil => rfl
  | cons x _ ih => simp only [hold, ih]
  | swap x y l => simp only [hold]; omega
  | trans _ _ h1 h2 => rw [h1, h2]
theorem swl_hold : ∀ (c : Rg) (l : List Rg), Ne l → (∀ x ∈ l, c.1 ≤ x.1) → Up l → hold (swl c l) ≤ (c.2.1 - c.1) + hold l
  | c, [], _, _, _ => by simp only [swl, hold]; omega
  | c, x :: l, hn, hc, hu => by
    have hx := hn x (by simp)
    have hcx := hc x (by simp)
    rw [Up, List.pairwise_cons] at hu
    simp only [swl]
    split
    · have ih := swl_hold (c.1, (mxI c.2.1 x.2.1, ())) l (fun y hy => hn y (by simp [hy])) (fun y hy => hc y (by simp [hy])) hu.2
      have hm : mxI c.2.1 x.2.1 ≤ c.2.1 + (x.2.1 - x.1) := by unfold mxI; split <;> omega
      have ih' : hold (swl (c.1, (mxI c.2.1 x.2.1, ())) l) ≤ (mxI c.2.1 x.2.1 - c.1) + hold l := ih
      simp only [hold]
      omega
    · have ih := swl_hold x l (fun y hy => hn y (by simp [hy])) (fun y hy => hu.1 y hy) hu.2
      simp only [hold]
      omega
theorem sweep_hold {l : List Rg} (hn : Ne l) (hu : Up l) : hold (sweep l) ≤ hold l := by
  cases l with
  | nil => exact Int.le_refl _
  | cons x l =>
    have hu' := hu
    rw [Up, List.pairwise_cons] at hu'
    exact swl_hold x l (fun y hy => hn y (by simp [hy])) hu'.1 hu'.2
theorem hold_bounds : ∀ {l : List Rg} {lim : Int}, (∀ x ∈ l, -1 < x.1 ∧ x.1 < x.2.1 ∧ x.2.1 ≤ lim) → 0 ≤ lim → 0 ≤ hold l ∧ hold l ≤ l.length * lim
  | [], lim, _, h0 => by simp [hold]
  | x :: l, lim, h, h0 => by
    have hx := h x (by simp)
    have ih := hold_bounds (l := l) (fun y hy => h y (by simp [hy])) h0
    simp only [hold, List.length_cons]
    have e : (((l.length + 1 : Nat)) : Int) * lim = l.length * lim + lim := by rw [Int.natCast_add, Int.add_mul]; simp
    rw [e]
    omega
theorem LOk.all {lim : Int} {l : List Rg} (h : LOk lim l) : ∀ x ∈ l, -1 < x.1 ∧ x.1 < x.2.1 ∧ x.2.1 ≤ lim := fun x hx => ⟨h.low x hx, h.ne x hx, h.upto x hx⟩
section
variable {lim : Int} {a b : List Rg}
theorem jn_hold (ha : LOk lim a) (hb : LOk lim b) : hold (jn a b) ≤ hold a + hold b := by
  have h1 := sweep_hold (jn_facts ha hb).1 (srtL_asc (a ++ b))
  rw [hold_perm (jn_perm ha hb), hold_app] at h1
  exact h1
theorem jn_comm (ha : LOk lim a) (hb : LOk lim b) : jn a b = jn b a :=
  can_eq (jn_can ha hb) (jn_can hb ha) fun j => by rw [jn_in ha hb, jn_in hb ha, or_comm]
theorem jn_self (ha : LOk lim a) : jn a a = a :=
  can_eq (jn_can ha ha) ha.can fun j => by rw [jn_in ha ha, or_self]
theorem jn_again (ha : LOk lim a) (hb : LOk lim b) (hl : (jn a b).length ≤ 2000) : jn (jn a b) a = jn a b :=
  can_eq (jn_can (jn_ok ha hb hl) ha) (jn_can ha hb) fun j => by
    rw [jn_in (jn_ok ha hb hl) ha, jn_in ha hb]
    constructor
    · rintro ((h | h) | h)
      · exact Or.inl h
      · exact Or.inr h
      · exact Or.inl h
    · intro h; exact Or.inl h
theorem jnF_ok (ha : LOk lim a) (hb : LOk lim b) (hl : (jn a b).length ≤ 2000) : jnF a b lim = (0, jn a b) := by
  unfold jnF
  rw [if_neg (not_not_intro (ok_chk ha)), if_neg (not_not_intro (ok_chk hb)), if_neg (by omega)]
end
theorem jnF_zero {a b : List Rg} {n : Int} (h : (jnF a b n).1 = 0) : LOk n a ∧ LOk n b ∧ (jn a b).length ≤ 2000 := by
  unfold jnF at h
  by_cases h1 : chkRgs a n = 0
  · by_cases h2 : chkRgs b n = 0
    · rw [if_neg (not_not_intro h1), if_neg (not_not_intro h2)] at h
      split at h
      · cases h
      · exact ⟨chk_ok h1, chk_ok h2, by omega⟩
    · rw [if_neg (not_not_intro h1), if_pos h2] at h; exact absurd h h2
  · rw [if_pos h1] at h; exact absurd h h1
theorem jnF_bad {a b : List Rg} {n : Int} (h : (jnF a b n).1 ≠ 0) : (jnF a b n).2 = [] := by
  unfold jnF at h ⊢
  split
  · rfl
  · split
    · rfl
    · split
      · rfl
      · rename_i h1 h2 h3
        rw [if_neg h1, if_neg h2, if_neg h3] at h; exact absurd rfl h
/-! spans and holes -/
theorem preF_can : ∀ {s : Int} {l : List Rg} {a : Int}, a < s → Can s l ∨ (∃ x m, l = x :: m ∧ s ≤ x.1 ∧ x.1 < x.2.1 ∧ Can x.2.1 m) → Can a (preF s l)
  | s, [], a, _, _ => trivial
  | s, x :: l, a, ha, h => by
    have hx : s ≤ x.1 ∧ x.1 < x.2.1 ∧ Can x.2.1 l := by
      rcases h with ⟨h1, h2, h3⟩ | ⟨y, m, e, h1, h2, h3⟩
      · exact ⟨by omega, h2, h3⟩
      · cases e; exact ⟨h1, h2, h3⟩
    simp only [preF]
    split
    · rename_i q
      exact ⟨ha, q, preF_can (s := x.2.1) (a := x.1) (by omega) (Or.inl hx.2.2)⟩
    · rw [List.nil_append]
      exact preF_can (s := x.2.1) (a := a) (by omega) (Or.inl hx.2.2)
theorem can_app : ∀ {a : Int} {l : List Rg} {x : Rg}, Can a l → (∀ y ∈ l, y.2.1 < x.1) → a < x.1 → x.1 < x.2.1 → Can a (l ++ [x])
  | a, [], x, _, _, h1, h2 => ⟨h1, h2, trivial⟩
  | a, y :: l, x, ⟨h1, h2, h3⟩, hy, _, h4 => ⟨h1, h2, can_app h3 (fun z hz => hy z (by simp [hz])) (hy y (by simp)) h4⟩
theorem can_srt {lim : Int} : ∀ {s : Int} {l : List Rg}, Can s l → (∀ x ∈ l, x.2.1 ≤ lim) → Srt lim s l
  | _, [], _, _ => trivial
  | s, x :: l, ⟨h1, h2, h3⟩, h => ⟨by omega, h2, h x (by simp), can_srt h3 (fun y hy => h y (by simp [hy]))⟩
theorem LOk.srt {lim : Int} {l : List Rg} (h : LOk lim l) : Srt lim 0 l := by
  cases l with
  | nil => trivial
  | cons x l =>
    obtain ⟨h1, h2, h3⟩ := h.can
    exact ⟨by omega, h2, h.upto x (by simp), can_srt h3 (fun y hy => h.upto y (by simp [hy]))⟩
theorem preF_gap {lim : Int} : ∀ {s : Int} {l : List Rg}, Srt lim s l → l ≠ [] → ∀ h ∈ preF s l, h.2.1 < lastT s l
  | s, [], _, hne, _, _ => absurd rfl hne
  | s, x :: l, ⟨h1, h2, h3, h4⟩, _, h, hh => by
    have hb := (lastT_bounds h4).1
    simp only [preF] at hh
    simp only [lastT]
    rcases List.mem_append.1 hh with hh | hh
    · split at hh
      · rw [List.mem_singleton] at hh; subst hh; show x.1 < _; omega
      · cases hh
    · cases l with
      | nil => cases hh
      | cons y m => exact preF_gap h4 (by simp) h hh
theorem holes_can {lim : Int} {a : List Rg} (ha : LOk lim a) : Can (-1) (holesF a lim) := by
  have hs := ha.srt
  have hp : Can (-1) (preF 0 a) := by
    cases a with
    | nil => trivial
    | cons x l =>
      obtain ⟨h1, h2, h3⟩ := ha.can
      exact preF_can (by omega) (Or.inr ⟨x, l, rfl, by omega, h2, h3⟩)
  unfold holesF
  split
  · rename_i q
    refine can_app hp (fun y hy => ?_) ?_ q
    · cases a with
      | nil => cases hy
      | cons x l => exact preF_gap hs (by simp) y hy
    · have := (lastT_bounds hs).1
      show (-1 : Int) < lastT 0 a
      omega
  · rw [List.append_nil]; exact hp
theorem srt_last {lim : Int} : ∀ {s : Int} {l : List Rg}, Srt lim s l → ∀ x ∈ l, x.2.1 ≤ lastT s l
  | _, [], _, x, hx => by cases hx
  | s, y :: l, ⟨h1, h2, h3, h4⟩, x, hx => by
    simp only [lastT]
    rcases List.mem_cons.1 hx with rfl | hx
    · exact (lastT_bounds h4).1
    · exact srt_last h4 x hx
theorem holes_in {lim : Int} {a : List Rg} (ha : LOk lim a) (j : Int) : inR (holesF a lim) j ↔ (0 ≤ j ∧ j < lim ∧ ¬ inR a j) := by
  have hs := ha.srt
  obtain ⟨b1, b2⟩ := lastT_bounds hs
  have b3 := b2 ha.bnd.1
  unfold holesF
  rw [inR_app, preF_mem hs j]
  have hno : lastT 0 a ≤ j → ¬ inR a j := by
    rintro hj ⟨x, hx, h1, h2⟩
    have := srt_last hs x hx
    omega
  by_cases q : lastT 0 a < lim
  · rw [if_pos q, inR_cons]
    have hn : ¬ inR ([] : List Rg) j := by rintro ⟨x, hx, _⟩; cases hx
    constructor
    · rintro (⟨h1, h2, h3⟩ | h | h)
      · exact ⟨h1, by omega, h3⟩
      · have h1 : lastT 0 a ≤ j := h.1
        have h2 : j < lim := h.2
        exact ⟨by omega, h2, hno h1⟩
      · exact absurd h hn
    · rintro ⟨h1, h2, h3⟩
      by_cases c : j < lastT 0 a
      · exact Or.inl ⟨h1, c, h3⟩
      · exact Or.inr (Or.inl ⟨by show lastT 0 a ≤ j; omega, h2⟩)
  · rw [if_neg q]
    have hn : ¬ inR ([] : List Rg) j := by rintro ⟨x, hx, _⟩; cases hx
    constructor
    · rintro (⟨h1, h2, h3⟩ | h)
      · exact ⟨h1, by omega, h3⟩
      · exact absurd h hn
    · rintro ⟨h1, h2, h3⟩
      exact Or.inl ⟨h1, by omega, h3⟩
theorem holes_ok {lim : Int} {a : List Rg} (ha : LOk lim a) (hl : (holesF a lim).length ≤ 2000) : LOk lim (holesF a lim) := by
  refine ⟨ha.bnd, hl, holes_can ha, fun x hx => ?_⟩
  have h := can_low (holes_can ha) x hx
  have := (holes_in ha (x.2.1 - 1)).1 ⟨x, hx, by omega, by omega⟩
  omega
theorem holes_holes {lim : Int} {a : List Rg} (ha : LOk lim a) (hl : (holesF a lim).length ≤ 2000) : holesF (holesF a lim) lim = a := by
  have hx := holes_ok ha hl
  refine can_eq (holes_can hx) ha.can fun j => ?_
  rw [holes_in hx, holes_in ha]
  constructor
  · rintro ⟨h1, h2, h3⟩
    exact Classical.byContradiction fun h => h3 ⟨h1, h2, h⟩
  · intro h
    obtain ⟨x, hx1, h1, h2⟩ := id h
    have := ha.all x hx1
    exact ⟨by omega, by omega, fun q => q.2.2 h⟩
def whole (lim : Int) : List Rg := if 0 < lim then [(0, (lim, ()))] else []
theorem whole_in {lim j : Int} : inR (whole lim) j ↔ 0 ≤ j ∧ j < lim := by
  have hn : ¬ inR ([] : List Rg) j := by rintro ⟨x, hx, _⟩; cases hx
  unfold whole
  split
  · rw [inR_cons]
    constructor
    · rintro (h | h)
      · exact h
      · exact absurd h hn
    · intro h; exact Or.inl h
  · constructor
    · intro h; exact absurd h hn
    · intro h; omega
theorem jn_whole {lim : Int} {a : List Rg} (ha : LOk lim a) (hl : (holesF a lim).length ≤ 2000) : jn a (holesF a lim) = whole lim := by
  have hx := holes_ok ha hl
  refine can_eq (jn_can ha hx) ?_ fun j => ?_
  · unfold whole
    split
    · rename_i q; exact ⟨by show (-1 : Int) < 0; omega, q, trivial⟩
    · trivial
  · rw [jn_in ha hx, holes_in ha, whole_in]
    constructor
    · rintro (⟨x, hx1, h1, h2⟩ | h)
      · have := ha.all x hx1; omega
      · exact ⟨h.1, h.2.1⟩
    · intro h
      by_cases q : inR a j
      · exact Or.inl q
      · exact Or.inr ⟨h.1, h.2, q⟩
theorem preF_hold : ∀ {lim s : Int} {l : List Rg}, Srt lim s l → hold (preF s l) + hold l = lastT s l - s
  | _, s, [], _ => by simp [preF, hold, lastT]
  | lim, s, x :: l, ⟨h1, h2, h3, h4⟩ => by
    have ih := preF_hold h4
    simp only [preF, hold, lastT]
    rw [hold_app]
    split
    · simp only [hold]; omega
    · simp only [hold]; omega
theorem holes_hold {lim : Int} {a : List Rg} (ha : LOk lim a) : hold a + hold (holesF a lim) = lim := by
  have h := preF_hold ha.srt
  have b := (lastT_bounds ha.srt).2 ha.bnd.1
  unfold holesF
  rw [hold_app]
  split
  · simp only [hold]; omega
  · simp only [hold]; omega
theorem hlF_zero {a : List Rg} {n : Int} (h : (hlF a n).1 = 0) : LOk n a ∧ (holesF a n).length ≤ 2000 ∧ hlF a n = (0, holesF a n) := by
  unfold hlF at h ⊢
  by_cases h1 : chkRgs a n = 0
  · rw [if_neg (not_not_intro h1)] at h ⊢
    split at h
    · cases h
    · rename_i h2
      rw [if_neg h2]
      exact ⟨chk_ok h1, by omega, rfl⟩
  · rw [if_pos h1] at h; exact absurd h h1
theorem hlF_bad {a : List Rg} {n : Int} (h : (hlF a n).1 ≠ 0) : (hlF a n).2 = [] := by
  unfold hlF at h ⊢
  split
  · rfl
  · split
    · rfl
    · rename_i h1 h2
      rw [if_neg h1, if_neg h2] at h; exact absurd rfl h
end Go.Proofs.YtoepnomdklhhlaaGreat.PM
/- Plain laws of receivers: bytes are laid into a file. -/
set_option linter.unusedSimpArgs false
set_option linter.unusedVariables false
namespace Go.Proofs.YtoepnomdklhhlaaGreat.PM
open Go Go.Proofs.YtoepnomdklhhlaaGreat.Bt
variable {R : Type}
/-- A list with some places laid over. -/
def ovr (P : Nat → Bool) (fr : Nat) (b base : List Int) : List Int := (List.range base.length).map fun j => if P j = true then b.getD (j - fr) 0 else base.getD j 0
theorem ovr_len (P : Nat → Bool) (fr : Nat) (b base : List Int) : (ovr P fr b base).length = base.length := by simp [ovr]
theorem ovr_get (P : Nat → Bool) (fr : Nat) (b base : List Int) (j : Nat) : (ovr P fr b base)[j]? = if j < base.length then some (if P j = true then b.getD (j - fr) 0 else base.getD j 0) else none := by
  unfold ovr
  rw [List.getElem?_map]
  by_cases h : j < base.length
  · rw [List.getElem?_range h, if_pos h]; rfl
  · rw [if_neg h, List.getElem?_eq_none (by simp; omega)]; rfl
theorem ovr_congr {P Q : Nat → Bool} {fr : Nat} {b base : List Int} (h : ∀ j, j < base.length → P j = Q j) : ovr P fr b base = ovr Q fr b base := by
  refine List.ext_getElem? fun j => ?_
  rw [ovr_get, ovr_get]
  by_cases hj : j < base.length
  · rw [if_pos hj, if_pos hj, h j hj]
  · rw [if_neg hj, if_neg hj]
theorem ovr_none {P : Nat → Bool} {fr : Nat} {b base : List Int} (h : ∀ j, j < base.length → P j = false) : ovr P fr b base = base := by
  refine List.ext_getElem? fun j => ?_
  rw [ovr_get]
  by_cases hj : j < base.length
  · rw [if_pos hj, h j hj, if_neg (by simp), List.getD_eq_getElem?_getD, List.getElem?_eq_getElem hj]; rfl
  · rw [if_neg hj, List.getElem?_eq_none (by omega)]
def fresh (P : Nat → Bool) (n : Nat) : Bool := (List.range n).any P
theorem fresh_iff {P : Nat → Bool} {n : Nat} : fresh P n = true ↔ ∃ j, j < n ∧ P j = true := by simp [fresh]
theorem fresh_congr {P Q : Nat → Bool} {n : Nat} (h : ∀ j, j < n → P j = Q j) : fresh P n = fresh Q n := by
  rw [Bool.eq_iff_iff, fresh_iff, fresh_iff]
  exact ⟨fun ⟨j, h1, h2⟩ => ⟨j, h1, by rw [← h j h1]; exact h2⟩, fun ⟨j, h1, h2⟩ => ⟨j, h1, by rw [h j h1]; exact h2⟩⟩
/-- What is laid: the places from fr to to that are not there. -/
def putP (hv : List Rg) (fr to : Nat) (j : Nat) : Bool := decide (fr ≤ j) && (decide (j < to) && !insB hv (j : Int))
def padL (l : List Int) (n : Nat) : List Int := l ++ List.replicate (n - l.length) 0
theorem padL_len (l : List Int) (n : Nat) : (padL l n).length = max n l.length := by simp [padL]; omega
theorem padL_le {l : List Int} {n : Nat} (h : n ≤ l.length) : padL l n = l := by unfold padL; rw [Nat.sub_eq_zero_of_le h]; simp
theorem LIM1' : LIM 1 = 140737488355328 := by simp [LIM]
/-! the program's way: over the holes -/
def hlP (H : List Rg) (fr to : Nat) (j : Nat) : Bool := decide (fr ≤ j) && (decide (j < to) && insB H (j : Int))
theorem insB_take {H : List Rg} {i : Nat} (hi : i < H.length) (j : Int) : insB (H.take (i + 1)) j = (insB (H.take i) j || (decide (H[i].1 ≤ j) && decide (j < H[i].2.1))) := by
  unfold insB
  rw [List.take_succ_eq_append_getElem hi, List.any_append]
  simp
theorem splice_ovr {fr to : Nat} {b base : List Int} {H : List Rg} {i lo hi : Nat} (hi' : i < H.length) (hb : fr + b.length = to) (h1 : fr ≤ lo) (h2 : lo < hi) (h3 : hi ≤ to) (h4 : to ≤ base.length)
    (hin : ∀ j, fr ≤ j → j < to → ((H[i].1 ≤ (j : Int) ∧ (j : Int) < H[i].2.1) ↔ (lo ≤ j ∧ j < hi))) :
    splice (ovr (hlP (H.take i) fr to) fr b base) lo (((b.take (hi - fr)).drop (lo - fr)).take (min ((b.take (hi - fr)).drop (lo - fr)).length (hi - lo))) = ovr (hlP (H.take (i + 1)) fr to) fr b base := by
  have hl1 : ((b.take (hi - fr)).drop (lo - fr)).length = hi - lo := by rw [List.length_drop, List.length_take]; omega
  have htk : ((b.take (hi - fr)).drop (lo - fr)).take (hi - lo) = (b.take (hi - fr)).drop (lo - fr) := List.take_of_length_le (by omega)
  rw [hl1, Nat.min_self, htk]
  have ho := ovr_len (hlP (H.take i) fr to) fr b base
  refine List.ext_getElem? fun j => ?_
  rw [ovr_get]
  unfold splice
  have hlt : ((ovr (hlP (H.take i) fr to) fr b base).take lo).length = lo := by rw [List.length_take, ho]; omega
  have hstep : hlP (H.take (i + 1)) fr to j = (hlP (H.take i) fr to j || (decide (lo ≤ j) && decide (j < hi))) := by
    unfold hlP
    rw [insB_take hi']
    by_cases q1 : fr ≤ j
    · by_cases q2 : j < to
      · have := hin j q1 q2
        have e : (decide (H[i].1 ≤ (j : Int)) && decide ((j : Int) < H[i].2.1)) = (decide (lo ≤ j) && decide (j < hi)) := by
          rw [Bool.eq_iff_iff]; simpa using this
        rw [e]; simp [q1, q2]
      · simp [q1, q2]; omega
    · simp [q1]; omega
  by_cases c1 : j < lo
  · rw [List.append_assoc, List.getElem?_append_left (by omega), List.getElem?_take, if_pos c1, ovr_get, hstep]
    have : decide (lo ≤ j) = false := decide_eq_false (by omega)
    simp [this]
  · by_cases c2 : j < hi
    · rw [List.append_assoc, List.getElem?_append_right (by omega), hlt, List.getElem?_append_left (by omega), List.getElem?_drop, List.getElem?_take, if_pos (by omega), if_pos (by omega), hstep]
      have e1 : decide (lo ≤ j) = true := decide_eq_true (by omega)
      have e2 : decide (j < hi) = true := decide_eq_true c2
      rw [e1, e2]
      simp only [Bool.and_self, Bool.or_true, if_true]
      rw [show lo - fr + (j - lo) = j - fr by omega, List.getD_eq_getElem?_getD, List.getElem?_eq_getElem (by omega)]
      rfl
    · rw [List.getElem?_append_right (by rw [List.length_append, hlt]; omega), List.length_append, hlt, hl1, List.getElem?_drop, show lo + (hi - lo) + (j - (lo + (hi - lo))) = j by omega, ovr_get, hstep]
      have : decide (j < hi) = false := decide_eq_false (by omega)
      simp [this]
theorem f94_loop (k : Nat) (x0 : Bool → List Int → Option R) (hv : List Rg) (fr to : Nat) (b base : List Int) (H : List Rg) (hb : fr + b.length = to) (hbase : to ≤ base.length) (hbl : (base.length : Int) ≤ 1000000) (hHl : H.length ≤ 1000000)
    (hH : ∀ h ∈ H, 0 ≤ h.1 ∧ h.1 < h.2.1 ∧ h.2.1 ≤ (base.length : Int)) : ∀ (d i f : Nat), i + d = H.length → d < f →
      f94_0d k x0 hv (fr : Int) b (to : Int) (H.length : Int) H f (fresh (hlP (H.take i) fr to) to) (i : Int) (ovr (hlP (H.take i) fr to) fr b base) = x0 (fresh (hlP H fr to) to) (ovr (hlP H fr to) fr b base) := by
  intro d
  induction d with
  | zero =>
    intro i f hi hf
    obtain ⟨f, rfl⟩ := succ_of hf
    have h : decide ((i : Int) < (H.length : Int)) = false := by simp only [decide_eq_false_iff_not]; omega
    simp only [f94_0d, f94_0b, h, cond_false]
    rw [List.take_of_length_le (by omega)]
  | succ d ih =>
    intro i f hi hf
    obtain ⟨f, rfl⟩ := succ_of (show 0 < f by omega)
    have e1 : decide ((i : Int) < (H.length : Int)) = true := by simp only [decide_eq_true_eq]; omega
    have e2 : decide ((0 : Int) ≤ (i : Int)) = true := by simp only [decide_eq_true_eq]; omega
    have hlt : i < H.length := by omega
    have hw : IntKind.i64.wrap ((i : Int) + 1) = ((i + 1 : Nat) : Int) := by rw [wi (by omega) (by omega)]; rfl
    obtain ⟨g1, g2, g3⟩ := hH H[i] (List.getElem_mem hlt)
    simp only [f94_0d, f94_0b, e1, e2, Bool.and_self, cond_true, Int.toNat_natCast, getD_in hlt, hw, f94_1000011_def, f94_1000011d]
    obtain ⟨lo, hlo⟩ : ∃ lo : Nat, (if H[i].1 < (fr : Int) then (fr : Int) else H[i].1) = (lo : Int) ∧ fr ≤ lo ∧ ((lo : Int) = fr ∨ (lo : Int) = H[i].1) ∧ H[i].1 ≤ lo := by
      split
      · exact ⟨fr, rfl, Nat.le_refl _, .inl rfl, by omega⟩
      · exact ⟨H[i].1.toNat, by omega, by omega, .inr (by omega), by omega⟩
    obtain ⟨hi', hhi⟩ : ∃ hi' : Nat, (if (to : Int) < H[i].2.1 then (to : Int) else H[i].2.1) = (hi' : Int) ∧ hi' ≤ to ∧ ((hi' : Int) = to ∨ (hi' : Int) = H[i].2.1) ∧ (hi' : Int) ≤ H[i].2.1 := by
      split
      · exact ⟨to, rfl, Nat.le_refl _, .inl rfl, by omega⟩
      · exact ⟨H[i].2.1.toNat, by omega, by omega, .inr (by omega), by omega⟩
    rw [hlo.1, hhi.1]
    have hin : ∀ j, fr ≤ j → j < to → ((H[i].1 ≤ (j : Int) ∧ (j : Int) < H[i].2.1) ↔ (lo ≤ j ∧ j < hi')) := fun j h1 h2 => by omega
    by_cases c : lo < hi'
    · have d1 : decide ((lo : Int) < (hi' : Int)) = true := by simp only [decide_eq_true_eq]; omega
      have d2 : decide ((0 : Int) ≤ (lo : Int)) = true := by simp only [decide_eq_true_eq]; omega
      have d3 : decide ((lo : Int) ≤ (hi' : Int)) = true := by simp only [decide_eq_true_eq]; omega
      have d4 : decide ((hi' : Int) ≤ ((ovr (hlP (H.take i) fr to) fr b base).length : Int)) = true := by rw [ovr_len]; simp only [decide_eq_true_eq]; omega
      have w1 : IntKind.i64.wrap ((lo : Int) - (fr : Int)) = ((lo - fr : Nat) : Int) := by rw [wi (by omega) (by omega)]; omega
      have w2 : IntKind.i64.wrap ((hi' : Int) - (fr : Int)) = ((hi' - fr : Nat) : Int) := by rw [wi (by omega) (by omega)]; omega
      have d5 : decide ((0 : Int) ≤ ((lo - fr : Nat) : Int)) = true := by simp only [decide_eq_true_eq]; omega
      have d6 : decide (((lo - fr : Nat) : Int) ≤ ((hi' - fr : Nat) : Int)) = true := by simp only [decide_eq_true_eq]; omega
      have d7 : decide (((hi' - fr : Nat) : Int) ≤ (b.length : Int)) = true := by simp only [decide_eq_true_eq]; omega
      simp only [d1, d2, d3, d4, w1, w2, d5, d6, d7, Bool.and_self, cond_true, Int.toNat_natCast]
      rw [splice_ovr hlt hb hlo.2.1 c hhi.2.1 hbase hin]
      have hfr : true = fresh (hlP (H.take (i + 1)) fr to) to := by
        refine (fresh_iff.2 ⟨lo, by omega, ?_⟩).symm
        unfold hlP
        rw [insB_take hlt]
        have := (hin lo hlo.2.1 (by omega)).2 ⟨Nat.le_refl _, c⟩
        simp [hlo.2.1, this]
        omega
      rw [hfr]
      exact ih (i + 1) f (by omega) (by omega)
    · have d1 : decide ((lo : Int) < (hi' : Int)) = false := by simp only [decide_eq_false_iff_not]; omega
      simp only [d1, cond_false]
      have heq : ∀ j, hlP (H.take i) fr to j = hlP (H.take (i + 1)) fr to j := fun j => by
        unfold hlP
        rw [insB_take hlt]
        by_cases q1 : fr ≤ j
        · by_cases q2 : j < to
          · have := hin j q1 q2
            have e : (decide (H[i].1 ≤ (j : Int)) && decide ((j : Int) < H[i].2.1)) = false := by
              rw [Bool.eq_false_iff]; intro h'
              simp only [Bool.and_eq_true, decide_eq_true_eq] at h'
              have := this.1 h'
              omega
            rw [e, Bool.or_false]
          · simp [q2]
        · simp [q1]
      rw [fresh_congr (fun j _ => heq j), ovr_congr (fun j _ => heq j)]
      exact ih (i + 1) f (by omega) (by omega)
theorem hlP_holes {lim : Int} {hv : List Rg} (h : LOk lim hv) (fr to : Nat) (hto : (to : Int) ≤ lim) (j : Nat) : hlP (holesF hv lim) fr to j = putP hv fr to j := by
  unfold hlP putP
  by_cases q1 : fr ≤ j
  · by_cases q2 : j < to
    · have := holes_in h (j : Int)
      rw [← insB_iff, ← insB_iff] at this
      have e : insB (holesF hv lim) (j : Int) = !insB hv (j : Int) := by
        rw [Bool.eq_iff_iff, this]
        cases insB hv (j : Int) <;> simp <;> omega
      rw [e]
    · simp [q2]
  · simp [q1]
theorem holes_rg {lim : Int} {hv : List Rg} (h : LOk lim hv) : ∀ x ∈ holesF hv lim, 0 ≤ x.1 ∧ x.1 < x.2.1 ∧ x.2.1 ≤ lim := fun x hx => by
  have h1 := can_low (holes_can h) x hx
  have h2 := (holes_in h (x.2.1 - 1)).1 ⟨x, hx, by omega, by omega⟩
  omega
/-- What put makes of bytes that are there. -/
def putD (dat : List Int) (hv : List Rg) (fr : Nat) (b : List Int) : List Int := ovr (putP hv fr (fr + b.length)) fr b (padL dat (fr + b.length))
def putS (hv : List Rg) (fr n : Nat) : Bool := fresh (putP hv fr (fr + n)) (fr + n)
noncomputable def putH (hv : List Rg) (fr n : Nat) : List Rg := jn hv [((fr : Int), ((fr : Int) + (n : Int), ()))]
structure PutOk (dat : List Int) (hv : List Rg) (fr : Nat) (b : List Int) : Prop where
  dl : (dat.length : Int) ≤ 100000
  tl : (fr + b.length : Nat) ≤ 100000
  b1 : 0 < b.length
  hv : LOk ((max (fr + b.length) dat.length : Nat) : Int) hv
theorem PutOk.one {dat : List Int} {hv : List Rg} {fr : Nat} {b : List Int} (h : PutOk dat hv fr b) : LOk ((max (fr + b.length) dat.length : Nat) : Int) [((fr : Int), ((fr : Int) + (b.length : Int), ()))] := by
  have h1 := h.b1
  refine ⟨h.hv.bnd, by simp, ⟨by simp only; omega, by simp only; omega, trivial⟩, fun x hx => ?_⟩
  simp at hx
  subst hx
  simp only
  omega
theorem f94_eq {k : Nat} {dat : List Int} {hv : List Rg} {fr : Nat} {b : List Int} (h : PutOk dat hv fr b) (hk : 7000 < k) (K : Bool → List Int → List Rg → Option R) :
    f94 k dat hv (fr : Int) b K = K (putS hv fr b.length) (putD dat hv fr b) (putH hv fr b.length) := by
  obtain ⟨j, rfl⟩ := succ_of (show 0 < k by omega)
  have g1 := h.dl
  have g2 := h.tl
  have hl := h.hv.len
  have wt : IntKind.i64.wrap ((fr : Int) + (b.length : Int)) = ((fr + b.length : Nat) : Int) := by rw [wi (by omega) (by omega)]; rfl
  rw [f94_def]
  simp only [f94d, wt]
  rw [f43_eq (by omega) (by omega), f94_1000004_def]
  have hmax : (if ((fr + b.length : Nat) : Int) < (dat.length : Int) then (dat.length : Int) else ((fr + b.length : Nat) : Int)) = ((max (fr + b.length) dat.length : Nat) : Int) := by split <;> omega
  have hpl := padL_len dat (fr + b.length)
  have hhl := holesF_len hv ((max (fr + b.length) dat.length : Nat) : Int)
  have hgo : ∀ (Y : List Int → Option R), f94_1000004d j Y ((fr + b.length : Nat) : Int) (decide (((fr + b.length : Nat) : Int) > (dat.length : Int))) dat = Y (padL dat (fr + b.length)) := fun Y => by
    simp only [f94_1000004d]
    by_cases c : fr + b.length ≤ dat.length
    · have e : decide (((fr + b.length : Nat) : Int) > (dat.length : Int)) = false := by simp only [decide_eq_false_iff_not]; omega
      rw [e, padL_le c]
      rfl
    · have e : decide (((fr + b.length : Nat) : Int) > (dat.length : Int)) = true := by simp only [decide_eq_true_eq]; omega
      have w : IntKind.i64.wrap (((fr + b.length : Nat) : Int) - (dat.length : Int)) = ((fr + b.length - dat.length : Nat) : Int) := by rw [wi (by omega) (by omega)]; omega
      have hrep : repL [0] ((fr + b.length - dat.length : Nat) : Int) = List.replicate (fr + b.length - dat.length) 0 := by simp [repL]
      have hok : repOk [0] ((fr + b.length - dat.length : Nat) : Int) = true := by
        simp only [repOk, Bool.and_eq_true, decide_eq_true_eq]
        refine ⟨rfl, by omega, by omega, by decide, by decide⟩
      have hlim : decide (dat.length + (List.replicate (fr + b.length - dat.length) (0 : Int)).length ≤ LIM 1) = true := by rw [LIM1', List.length_replicate]; simp only [decide_eq_true_eq]; omega
      obtain ⟨m, rfl⟩ := succ_of (show 0 < j by omega)
      rw [e, f125_def]
      simp only [f125d, w, hok, cond_true, hrep, hlim]
      rfl
  rw [hgo, hmax, f126_eq (by omega) (by omega), f94_0_def]
  have hloop := f94_loop (R := R) j (fun y0_0_3 y0_0_4 => (f127 j hv ([((fr : Int), (((fr + b.length : Nat) : Int), ()))] : List Rg) (fun r30726_0 => (K y0_0_3 y0_0_4 r30726_0)))) hv fr (fr + b.length) b (padL dat (fr + b.length)) (holesF hv ((max (fr + b.length) dat.length : Nat) : Int)) rfl (by rw [hpl]; omega) (by rw [hpl]; omega) (by omega)
    (fun x hx => by have := holes_rg h.hv x hx; rw [hpl]; exact this) (holesF hv ((max (fr + b.length) dat.length : Nat) : Int)).length 0 j (by omega) (by omega)
  have e0 : ∀ q, hlP (List.take 0 (holesF hv ((max (fr + b.length) dat.length : Nat) : Int))) fr (fr + b.length) q = false := fun q => by simp [hlP, insB]
  have f0 : fresh (hlP (List.take 0 (holesF hv ((max (fr + b.length) dat.length : Nat) : Int))) fr (fr + b.length)) (fr + b.length) = false := by
    rw [Bool.eq_false_iff]; intro h'
    obtain ⟨q, _, hq⟩ := fresh_iff.1 h'
    rw [e0] at hq; cases hq
  rw [f0, ovr_none (fun q _ => e0 q)] at hloop
  refine hloop.trans ?_
  have hP : ∀ q, hlP (holesF hv ((max (fr + b.length) dat.length : Nat) : Int)) fr (fr + b.length) q = putP hv fr (fr + b.length) q := fun q => hlP_holes h.hv fr _ (by omega) q
  rw [fresh_congr (fun q _ => hP q), ovr_congr (fun q _ => hP q)]
  rw [Int.natCast_add, f127_eq (by omega) (by simp) (sortOk_of h.hv h.one) (by omega)]
  rfl
end Go.Proofs.YtoepnomdklhhlaaGreat.PM
/- Plain laws of receivers: the document's way to lay bytes into a file. -/
set_option linter.unusedSimpArgs false
set_option linter.unusedVariables false
namespace Go.Proofs.YtoepnomdklhhlaaGreat.PM
open Go Go.Proofs.YtoepnomdklhhlaaGreat.Bt
variable {R : Type}
theorem putP_succ (hv : List Rg) (fr i : Nat) (hi : fr ≤ i) (j : Nat) : putP hv fr (i + 1) j = (putP hv fr i j || (decide (j = i) && !insB hv (i : Int))) := by
  unfold putP
  by_cases e : j = i
  · subst e
    simp [hi]
  · by_cases c : fr ≤ j
    · by_cases d : j < i
      · have : j < i + 1 := by omega
        simp [e, c, d, this]
      · have : ¬ j < i + 1 := by omega
        simp [e, c, d, this]
    · simp [e, c]
theorem ovr_set (hv : List Rg) (fr i : Nat) (b base : List Int) (hi : fr ≤ i) (hn : insB hv (i : Int) = false) : (ovr (putP hv fr i) fr b base).set i (b.getD (i - fr) 0) = ovr (putP hv fr (i + 1)) fr b base := by
  refine List.ext_getElem? fun j => ?_
  rw [List.getElem?_set, ovr_get, ovr_get, ovr_len, putP_succ hv fr i hi j, hn]
  by_cases e : i = j
  · subst e
    by_cases h : i < base.length
    · simp [h]
    · simp [h]
  · have e' : ¬ j = i := fun h => e h.symm
    simp [e, e']
end Go.Proofs.YtoepnomdklhhlaaGreat.PM
/- Plain laws of receivers: what a letter does. -/
set_option linter.unusedSimpArgs false
set_option linter.unusedVariables false
namespace Go.Proofs.YtoepnomdklhhlaaGreat.PM
open Go Go.Proofs.YtoepnomdklhhlaaGreat.Bt
variable {R : Type}
def conF (r : Rv) (kind : Int) (nm : ByteArray) (size sum fr : Int) (n : Nat) : Bool :=
  bif decide (kind = 2) then decide (0 ≤ r.sz) && decide (r.sz < fr + n) else
  (decide (0 ≤ r.sz) && (!decide (size = r.sz) || !decide (sum = r.sum))) || ((decide (kind = 1) && (!emp r.nm && !(nm.toList == r.nm.toList))) || decide (size < (r.dat.length : Int)))
theorem f93_eq {k : Nat} (hk : 0 < k) (r : Rv) (kind id : Int) (nm : ByteArray) (size sum fr : Int) (b : List Int) (hs : List Rg) (good : Bool) (h0 : 0 ≤ fr ∧ fr ≤ 100000) (hb : b.length ≤ 140737488355328) (K : Bool → Option R) :
    f93 k r.st r.id r.nm r.dat r.hv r.sz r.sum r.wt r.tr kind id nm size sum fr b hs good K = K (conF r kind nm size sum fr b.length) := by
  obtain ⟨j, rfl⟩ := succ_of hk
  have wt : IntKind.i64.wrap (fr + (b.length : Int)) = fr + (b.length : Int) := wi (by omega) (by omega)
  have es : (r.nm.toList == (⟨#[]⟩ : ByteArray).toList) = emp r.nm := rfl
  rw [f93_def]
  simp only [f93d, beq_dec, bne_dec, ge_iff_le, gt_iff_lt, wt, es, conF]
  generalize decide (kind = 2) = q1
  generalize decide (0 ≤ r.sz) = q2
  generalize decide (size = r.sz) = q3
  generalize decide (sum = r.sum) = q4
  generalize decide (kind = 1) = q5
  generalize emp r.nm = q6
  generalize (nm.toList == r.nm.toList) = q7
  generalize decide (r.sz < fr + (b.length : Int)) = q8
  generalize decide (size < (r.dat.length : Int)) = q9
  cases q1 <;> cases q2 <;> cases q3 <;> cases q4 <;> cases q5 <;> cases q6 <;> cases q7 <;> rfl
/-! a receiver that is right -/
structure RFull (r : Rv) : Prop where
  id : 0 ≤ r.id ∧ r.id ≤ 65535
  st : 0 ≤ r.st ∧ r.st ≤ 4
  nm : emp r.nm = true ∨ nameOk r.nm = true
  sz : -1 ≤ r.sz ∧ r.sz ≤ 100000
  sum : 0 ≤ r.sum ∧ r.sum ≤ 4294967295
  wt : 0 ≤ r.wt ∧ r.wt ≤ 1000000
  tr : 0 ≤ r.tr ∧ r.tr ≤ 50
  hv : LOk (if r.sz = -1 then 100000 else r.sz) r.hv
  dl : (r.dat.length : Int) = lastT 0 r.hv
  bad : badF r.hv r.dat 0 = false
  un : r.sz = -1 → r.sum = 0 ∧ emp r.nm = true
  state : stB (decide (r.st = 2)) (decide (r.wt = 0)) (decide (r.sz = -1)) (decide (r.st = 0)) (emp r.nm) (decide (r.dat.length = 0)) (decide (r.tr = 0)) (decide ((holesF r.hv r.sz).length = 0)) = false
theorem chkRecv_full (r : Rv) : chkRecv r = 0 ↔ RFull r := by
  unfold chkRecv
  constructor
  · intro h
    by_cases h1 : inB r.id 0 65535 = false
    · rw [if_pos h1] at h; cases h
    rw [if_neg h1] at h
    by_cases h2 : inB r.st 0 4 = false
    · rw [if_pos h2] at h; cases h
    rw [if_neg h2] at h
    by_cases h3 : emp r.nm = false ∧ nameOk r.nm = false
    · rw [if_pos h3] at h; cases h
    rw [if_neg h3] at h
    by_cases h4 : inB r.sz (-1) 100000 = false
    · rw [if_pos h4] at h; cases h
    rw [if_neg h4] at h
    by_cases h5 : inB r.sum 0 4294967295 = false
    · rw [if_pos h5] at h; cases h
    rw [if_neg h5] at h
    by_cases h6 : inB r.wt 0 1000000 = false
    · rw [if_pos h6] at h; cases h
    rw [if_neg h6] at h
    by_cases h7 : inB r.tr 0 50 = false
    · rw [if_pos h7] at h; cases h
    rw [if_neg h7] at h
    by_cases h8 : chkRgs r.hv (if r.sz = -1 then 100000 else r.sz) = 0
    · rw [if_neg (fun e => e h8)] at h
      by_cases h9 : formV r = 0
      · rw [if_neg (fun e => e h9)] at h
        split at h
        · cases h
        · rename_i h10
          have t : ∀ {a lo hi : Int}, ¬ inB a lo hi = false → lo ≤ a ∧ a ≤ hi := fun {a lo hi} e => inB_iff.1 (by cases q : inB a lo hi with | true => rfl | false => exact absurd q e)
          unfold formV at h9
          by_cases g1 : (r.dat.length : Int) ≠ lastT 0 r.hv
          · rw [if_pos g1] at h9; cases h9
          rw [if_neg g1] at h9
          by_cases g2 : badF r.hv r.dat 0 = true
          · rw [if_pos g2] at h9; cases h9
          rw [if_neg g2] at h9
          by_cases g3 : r.sz = -1 ∧ (r.sum ≠ 0 ∨ emp r.nm = false)
          · rw [if_pos g3] at h9; cases h9
          refine ⟨t h1, t h2, ?_, t h4, t h5, t h6, t h7, chk_ok h8, ?_, by simpa using g2, fun e => ?_, by simpa using h10⟩
          · cases q1 : emp r.nm with
            | true => exact .inl rfl
            | false => cases q2 : nameOk r.nm with
              | true => exact .inr rfl
              | false => exact absurd ⟨q1, q2⟩ h3
          · exact Classical.not_not.1 g1
          · refine ⟨Classical.not_not.1 fun e2 => g3 ⟨e, .inl e2⟩, ?_⟩
            cases q : emp r.nm with
            | true => rfl
            | false => exact absurd ⟨e, .inr q⟩ g3
      · rw [if_pos h9] at h; exact absurd h h9
    · rw [if_pos h8] at h; exact absurd h h8
  · intro h
    have f : ∀ {a lo hi : Int}, lo ≤ a ∧ a ≤ hi → ¬ inB a lo hi = false := fun e q => by rw [inB_iff.2 e] at q; cases q
    have h9 : formV r = 0 := by
      unfold formV
      rw [if_neg (fun e => e h.dl), if_neg (by rw [h.bad]; simp), if_neg]
      rintro ⟨e, e2⟩
      have := h.un e
      rcases e2 with e2 | e2
      · exact e2 this.1
      · rw [this.2] at e2; cases e2
    rw [if_neg (f h.id), if_neg (f h.st), if_neg, if_neg (f h.sz), if_neg (f h.sum), if_neg (f h.wt), if_neg (f h.tr), if_neg (fun e => e (ok_chk h.hv)), if_neg (fun e => e h9), if_neg (by rw [h.state]; simp)]
    rintro ⟨e1, e2⟩
    rcases h.nm with e | e
    · rw [e] at e1; cases e1
    · rw [e] at e2; cases e2
/-- A letter that is right. -/
structure LFull (kind id : Int) (nm : ByteArray) (size sum : Int) (fr : Int) (b : List Int) : Prop where
  kd : 1 ≤ kind ∧ kind ≤ 6
  idr : 0 ≤ id ∧ id ≤ 65535
  nmr : kind = 1 → nameOk nm = true
  fig : kind = 1 ∨ kind = 3 → (0 ≤ size ∧ size ≤ 100000) ∧ (0 ≤ sum ∧ sum ≤ 4294967295)
  frr : 0 ≤ fr ∧ fr ≤ 100000
  bl : b.length ≤ 4096
  da : kind = 2 → 0 < b.length ∧ fr + b.length ≤ 100000
theorem chkLetter_full {kind id : Int} {nm : ByteArray} {size sum fr : Int} {b : List Int} {hs : List Rg} {good : Bool} (h : chkLetter kind id nm size sum fr b hs good = 0) : LFull kind id nm size sum fr b := by
  unfold chkLetter at h
  have t : ∀ {a lo hi : Int}, ¬ inB a lo hi = false → lo ≤ a ∧ a ≤ hi := fun {a lo hi} e => inB_iff.1 (by cases q : inB a lo hi with | true => rfl | false => exact absurd q e)
  by_cases h1 : inB kind 1 6 = false
  · rw [if_pos h1] at h; cases h
  rw [if_neg h1] at h
  by_cases h2 : inB id 0 65535 = false
  · rw [if_pos h2] at h; cases h
  rw [if_neg h2] at h
  by_cases h3 : extra kind (emp nm) size sum fr b.length hs.length good = true
  · rw [if_pos h3] at h; cases h
  rw [if_neg h3] at h
  by_cases h4 : kind = 1 ∧ nameOk nm = false
  · rw [if_pos h4] at h; cases h
  rw [if_neg h4] at h
  have hx : kind = 2 ∨ fr = 0 ∧ b.length = 0 := by
    by_cases e : kind = 2
    · exact .inl e
    · right
      simp [extra] at h3
      have q := h3.1.1.2 e
      exact ⟨q.1, by rw [q.2]; rfl⟩
  refine ⟨t h1, t h2, fun e => ?_, fun e => ?_, ?_, ?_, fun e => ?_⟩
  · cases q : nameOk nm with
    | true => rfl
    | false => exact absurd ⟨e, q⟩ h4
  · rw [if_pos e] at h
    split at h
    · rename_i q
      exact ⟨inB_iff.1 q.1, inB_iff.1 q.2⟩
    · cases h
  · rcases hx with e | ⟨e, _⟩
    · subst e
      rw [if_neg (by decide), if_pos rfl] at h
      by_cases q : inB fr 0 100000 = false
      · rw [if_pos q] at h; cases h
      · exact t q
    · omega
  · rcases hx with e | ⟨_, e⟩
    · subst e
      rw [if_neg (by decide), if_pos rfl] at h
      by_cases q : inB fr 0 100000 = false
      · rw [if_pos q] at h; cases h
      rw [if_neg q] at h
      by_cases q2 : b.length = 0
      · omega
      rw [if_neg q2] at h
      by_cases q3 : 4096 < b.length
      · rw [if_pos q3] at h; cases h
      omega
    · omega
  · subst e
    rw [if_neg (by decide), if_pos rfl] at h
    by_cases q : inB fr 0 100000 = false
    · rw [if_pos q] at h; cases h
    rw [if_neg q] at h
    by_cases q2 : b.length = 0
    · rw [if_pos q2] at h; cases h
    rw [if_neg q2] at h
    by_cases q3 : 4096 < b.length
    · rw [if_pos q3] at h; cases h
    rw [if_neg q3] at h
    by_cases q4 : fr + b.length > 100000
    · rw [if_pos q4] at h; cases h
    omega
theorem RFull.dl5 {r : Rv} (h : RFull r) : (r.dat.length : Int) ≤ 100000 ∧ (r.sz ≠ -1 → (r.dat.length : Int) ≤ r.sz) := by
  have h1 := lastT_bounds h.hv.srt
  have h2 := h.dl
  have h3 := h.hv.bnd
  have h4 := h1.2 h3.1
  split at h4 <;> constructor <;> omega
theorem RFull.put {r : Rv} (h : RFull r) {fr : Nat} {b : List Int} (h1 : 0 < b.length) (h2 : fr + b.length ≤ 100000) : PutOk r.dat r.hv fr b := by
  have h3 := h.dl5
  refine ⟨h3.1, h2, h1, ⟨by omega, h.hv.len, h.hv.can, fun x hx => ?_⟩⟩
  have := srt_last h.hv.srt x hx
  have := h.dl
  omega
/-! what a letter does -/
def doneL (r : Rv) (g : Bool) : Lt := (5, (r.id, (⟨#[]⟩, (0, (0, (0, ([], ([], (g, ())))))))))
noncomputable def endR (wait kind : Int) (r : Rv) : (Rv × List Lt) × Int :=
  if (!emp r.nm && (decide (0 ≤ r.sz) && decide ((holesF r.hv r.sz).length = 0))) = true then (({ r with st := if sumOf r.dat = r.sum then 3 else 4, wt := 0 }, [doneL r (decide (sumOf r.dat = r.sum))]), 0)
  else if kind ≠ 3 then ((r, []), 0)
  else if 2000 < (holesF r.hv r.sz).length then ((zR, []), 2) else (({ r with st := 2, wt := wait }, [holeL r]), 0)
def busy (r : Rv) : Rv := { r with st := if r.st = 0 then 1 else r.st }
noncomputable def putR (r : Rv) (fr : Nat) (b : List Int) : Rv := { r with dat := putD r.dat r.hv fr b, hv := putH r.hv fr b.length, tr := if putS r.hv fr b.length = true then 0 else r.tr }
def sizeR (r : Rv) (kind : Int) (nm : ByteArray) (size sum : Int) : Rv := { r with sz := size, sum := sum, nm := if kind = 1 then nm else r.nm }
noncomputable def tkR (wait : Int) (r : Rv) (kind id : Int) (nm : ByteArray) (size sum : Int) (fr : Nat) (b : List Int) : (Rv × List Lt) × Int :=
  if ¬ (kind = 1 ∨ kind = 2 ∨ kind = 3 ∨ kind = 6) ∨ id ≠ r.id ∨ r.st = 4 then ((r, []), 0)
  else if r.st = 3 then ((r, if kind = 3 then [doneL r true] else []), 0)
  else if kind = 6 then (({ r with st := 4, wt := 0 }, []), 0)
  else if conF r kind nm size sum fr b.length = true then (({ r with st := 4, wt := 0 }, [stopR r]), 0)
  else if kind = 2 then (if 2000 < (putH r.hv fr b.length).length then ((zR, []), 2) else endR wait kind (busy (putR r fr b)))
  else endR wait kind (busy (sizeR r kind nm size sum))
end Go.Proofs.YtoepnomdklhhlaaGreat.PM
/- Plain laws of receivers: what a letter does, on both sides. -/
set_option linter.unusedSimpArgs false
set_option linter.unusedVariables false
namespace Go.Proofs.YtoepnomdklhhlaaGreat.PM
open Go Go.Proofs.YtoepnomdklhhlaaGreat.Bt
variable {R : Type}
theorem ttake92 {k : Nat} (a0 a1 a2 a3 a4 a5 a6 : Int) (a7 : ByteArray) (a8 : List Int) (a9 : List Rg) (a10 a11 a12 a13 a14 a15 : Int) (a16 : ByteArray) (a17 a18 a19 : Int) (a20 : List Int) (a21 : List Rg) (a22 : Bool) (nm : ByteArray) (dat : List Int) (hv : List Rg) (sz sum tr : Int) (hk : 110000 < k) (hl : hv.length ≤ 2000) (hd : (dat.length : Int) ≤ 100000) (hu : U8 dat) (h3 : a14 = 3 → 0 ≤ sz) (K : Int → Int → ByteArray → List Int → List Rg → Int → Int → Int → Int → Int → List Lt → Option R) :
    (fun y15_N_7 y15_N_8 y15_N_9 y15_N_10 y15_N_11 y15_N_13 => (f61_1000025 k (fun y25_N_5 => (bif ((!(y15_N_7.toList == (⟨#[]⟩ : ByteArray).toList)) == true) then (bif (decide (y15_N_10 ≥ (0 : Int)) == true) then (f95 k y25_N_5 a6 y15_N_7 y15_N_8 y15_N_9 y15_N_10 y15_N_11 a12 y15_N_13 (fun r55306_0 => (bif ((r55306_0.length : Int) == (0 : Int)) then (f96 k y15_N_8 (fun r57346_0 => (f61_1000030 k (fun y30_N_1 => (K y30_N_1 a6 y15_N_7 y15_N_8 y15_N_9 y15_N_10 y15_N_11 (0 : Int) y15_N_13 (0 : Int) ([((5 : Int), (a6, ((⟨#[]⟩ : ByteArray), ((0 : Int), ((0 : Int), ((0 : Int), (([] : List Int), (([] : List ((Int × (Int × Unit)))), ((r57346_0 == y15_N_11), ())))))))))] : List Lt))) (r57346_0 == y15_N_11) (4 : Int)))) else (bif (a14 != (3 : Int)) then (K y25_N_5 a6 y15_N_7 y15_N_8 y15_N_9 y15_N_10 y15_N_11 a12 y15_N_13 (0 : Int) ([] : List ((Int × (Int × (ByteArray × (Int × (Int × (Int × (List Int × (List ((Int × (Int × Unit))) × (Bool × Unit)))))))))))) else (f97 k (2 : Int) a6 y15_N_7 y15_N_8 y15_N_9 y15_N_10 y15_N_11 a3 y15_N_13 (fun r73729_0 r73729_1 => (bif (r73729_1 != (0 : Int)) then (K (0 : Int) (0 : Int) (⟨#[]⟩ : ByteArray) ([] : List Int) ([] : List ((Int × (Int × Unit)))) (0 : Int) (0 : Int) (0 : Int) (0 : Int) r73729_1 ([] : List ((Int × (Int × (ByteArray × (Int × (Int × (Int × (List Int × (List ((Int × (Int × Unit))) × (Bool × Unit)))))))))))) else (K (2 : Int) a6 y15_N_7 y15_N_8 y15_N_9 y15_N_10 y15_N_11 a3 y15_N_13 (0 : Int) ([((4 : Int), (a6, ((⟨#[]⟩ : ByteArray), ((0 : Int), ((0 : Int), ((0 : Int), (([] : List Int), (r73729_0, (false, ())))))))))] : List Lt))))))))) else (bif (a14 != (3 : Int)) then (K y25_N_5 a6 y15_N_7 y15_N_8 y15_N_9 y15_N_10 y15_N_11 a12 y15_N_13 (0 : Int) ([] : List ((Int × (Int × (ByteArray × (Int × (Int × (Int × (List Int × (List ((Int × (Int × Unit))) × (Bool × Unit)))))))))))) else (f97 k (2 : Int) a6 y15_N_7 y15_N_8 y15_N_9 y15_N_10 y15_N_11 a3 y15_N_13 (fun r73729_0 r73729_1 => (bif (r73729_1 != (0 : Int)) then (K (0 : Int) (0 : Int) (⟨#[]⟩ : ByteArray) ([] : List Int) ([] : List ((Int × (Int × Unit)))) (0 : Int) (0 : Int) (0 : Int) (0 : Int) r73729_1 ([] : List ((Int × (Int × (ByteArray × (Int × (Int × (Int × (List Int × (List ((Int × (Int × Unit))) × (Bool × Unit)))))))))))) else (K (2 : Int) a6 y15_N_7 y15_N_8 y15_N_9 y15_N_10 y15_N_11 a3 y15_N_13 (0 : Int) ([((4 : Int), (a6, ((⟨#[]⟩ : ByteArray), ((0 : Int), ((0 : Int), ((0 : Int), (([] : List Int), (r73729_0, (false, ())))))))))] : List Lt))))))) else (bif (a14 != (3 : Int)) then (K y25_N_5 a6 y15_N_7 y15_N_8 y15_N_9 y15_N_10 y15_N_11 a12 y15_N_13 (0 : Int) ([] : List ((Int × (Int × (ByteArray × (Int × (Int × (Int × (List Int × (List ((Int × (Int × Unit))) × (Bool × Unit)))))))))))) else (f97 k (2 : Int) a6 y15_N_7 y15_N_8 y15_N_9 y15_N_10 y15_N_11 a3 y15_N_13 (fun r73729_0 r73729_1 => (bif (r73729_1 != (0 : Int)) then (K (0 : Int) (0 : Int) (⟨#[]⟩ : ByteArray) ([] : List Int) ([] : List ((Int × (Int × Unit)))) (0 : Int) (0 : Int) (0 : Int) (0 : Int) r73729_1 ([] : List ((Int × (Int × (ByteArray × (Int × (Int × (Int × (List Int × (List ((Int × (Int × Unit))) × (Bool × Unit)))))))))))) else (K (2 : Int) a6 y15_N_7 y15_N_8 y15_N_9 y15_N_10 y15_N_11 a3 y15_N_13 (0 : Int) ([((4 : Int), (a6, ((⟨#[]⟩ : ByteArray), ((0 : Int), ((0 : Int), ((0 : Int), (([] : List Int), (r73729_0, (false, ())))))))))] : List Lt)))))))) (a5 == (0 : Int)) a5)) nm dat hv sz sum tr = apRF K (endR a3 a14 (busy ⟨a5, a6, nm, dat, hv, sz, sum, a12, tr⟩)) := by
  have es : (nm.toList == (⟨#[]⟩ : ByteArray).toList) = emp nm := rfl
  have hst : ∀ (X : Int → Option R), f61_1000025d k X (a5 == 0) a5 = X (if a5 = 0 then 1 else a5) := fun X => by
    simp only [f61_1000025d, beq_dec]
    by_cases e : a5 = 0 <;> simp [e]
  simp only [f61_1000025_def]
  rw [hst]
  generalize hs : (if a5 = 0 then 1 else a5) = st
  have e95 := fun K' => f95_eq (R := R) (k := k) ⟨st, a6, nm, dat, hv, sz, sum, a12, tr⟩ (by simp only; omega) (by simp only; omega) K'
  have e112 := fun K' => f97_eq (R := R) (k := k) ⟨2, a6, nm, dat, hv, sz, sum, a3, tr⟩ hl (by simp only; omega) K'
  have e64 := fun K' => f96_eq (R := R) (k := k) (l := dat) (by omega) hd hu K'
  simp only at e95 e112
  simp only [es, e95, e112, e64, busy, hs, endR, leneq, beq_dec, bne_dec, ge_iff_le, f61_1000030_def, f61_1000030d, doneL]
  cases q1 : emp nm <;> by_cases q2 : 0 ≤ sz <;> by_cases q3 : (holesF hv sz).length = 0 <;> by_cases q4 : sumOf dat = sum <;> by_cases q5 : a14 = 3 <;> by_cases q6 : 2000 < (holesF hv sz).length <;> simp [q1, q2, q3, q4, q5, q6, apRF, zR, holeL, lackF]
theorem u8_put {dat : List Int} {hv : List Rg} {fr : Nat} {b : List Int} (h1 : U8 dat) (h2 : U8 b) : U8 (putD dat hv fr b) := by
  intro x hx
  obtain ⟨j, hj⟩ := List.mem_iff_getElem?.1 hx
  unfold putD at hj
  rw [ovr_get] at hj
  split at hj
  · rename_i hlt
    have hd : ∀ (l : List Int) (i : Nat), U8 l → 0 ≤ l.getD i 0 ∧ l.getD i 0 ≤ 255 := fun l i hl => by
      rw [List.getD_eq_getElem?_getD]
      cases q : l[i]? with
      | none => simp
      | some y => simpa using hl y (List.mem_of_getElem? q)
    have hp : U8 (padL dat (fr + b.length)) := fun y hy => by
      unfold padL at hy
      rcases List.mem_append.1 hy with hy | hy
      · exact h1 y hy
      · have := (List.mem_replicate.1 hy).2; subst this; simp
    simp only [Option.some.injEq] at hj
    subst hj
    split
    · exact hd b _ h2
    · exact hd _ _ hp
  · cases hj
theorem putD_len (dat : List Int) (hv : List Rg) (fr : Nat) (b : List Int) : (putD dat hv fr b).length = max (fr + b.length) dat.length := by
  unfold putD; rw [ovr_len, padL_len]
theorem f61_eq {k : Nat} (a0 a1 a2 wait a4 : Int) (r : Rv) (kind id : Int) (nm : ByteArray) (size sum : Int) (fr : Nat) (b : List Int) (hs : List Rg) (good : Bool) (hr : RFull r) (hL : LFull kind id nm size sum fr b) (hu : U8 r.dat) (hub : U8 b) (hk : 110010 < k)
    (K : Int → Int → ByteArray → List Int → List Rg → Int → Int → Int → Int → Int → List Lt → Option R) :
    f61 k a0 a1 a2 wait a4 r.st r.id r.nm r.dat r.hv r.sz r.sum r.wt r.tr kind id nm size sum (fr : Int) b hs good K = apRF K (tkR wait r kind id nm size sum fr b) := by
  obtain ⟨j, rfl⟩ := succ_of (show 0 < k by omega)
  rw [f61_def]
  have hkd := hL.kd
  have hfr := hL.frr
  have hbl := hL.bl
  have hd5 := hr.dl5
  have hhl := hr.hv.len
  have e119 := fun K' => f93_eq (R := R) (k := j) (by omega) r kind id nm size sum fr b hs good hfr (by omega) K'
  have hTF : (true == false) = false := rfl
  have hFF : (false == false) = true := rfl
  have hTT : (true == true) = true := rfl
  by_cases h45 : kind = 4 ∨ kind = 5
  · rcases h45 with rfl | rfl <;> simp [f61d, tkR, apRF]
  by_cases hid : id = r.id
  · subst hid
    by_cases h4 : r.st = 4
    · rcases (show kind = 1 ∨ kind = 2 ∨ kind = 3 ∨ kind = 6 by omega) with rfl | rfl | rfl | rfl <;> simp [f61d, tkR, apRF, h4]
    · have e4 : (r.st == 4) = false := by simp [h4]
      by_cases h3 : r.st = 3
      · rcases (show kind = 1 ∨ kind = 2 ∨ kind = 3 ∨ kind = 6 by omega) with rfl | rfl | rfl | rfl <;> simp [f61d, tkR, apRF, h4, h3, doneL]
      · have e3 : (r.st == 3) = false := by simp [h3]
        by_cases h6 : kind = 6
        · subst h6
          simp [f61d, tkR, apRF, h4, h3, e4, e3]
        · cases hc : conF r kind nm size sum fr b.length with
          | true =>
            rcases (show kind = 1 ∨ kind = 2 ∨ kind = 3 by omega) with rfl | rfl | rfl <;> simp [f61d, tkR, apRF, h4, h3, e4, e3, e119, hc, stopR]
          | false =>
            by_cases h2 : kind = 2
            · subst h2
              obtain ⟨da1, da2⟩ := hL.da rfl
              have hp := hr.put da1 (show fr + b.length ≤ 100000 by omega)
              have e120 := fun K' => f94_eq (R := R) (k := j) hp (by omega) K'
              have hlen := putD_len r.dat r.hv fr b
              have hU := u8_put (hv := r.hv) (fr := fr) hu hub
              have hz : (2 : Int) = 3 → 0 ≤ r.sz := fun e => by omega
              simp only [f61d, e119, hc, e4, e3, Int.reduceBEq, Int.reduceBNe, bne_self_eq_false, Bool.not_true, cond_true, cond_false, hTF, hFF, hTT, Bool.not_false, f61_1000015_def, f61_1000015d, e120, f61_1000018_def, f61_1000018d]
              have d2 : decide (((putH r.hv fr b.length).length : Int) > 2000) = decide (2000 < (putH r.hv fr b.length).length) := by rw [Bool.eq_iff_iff]; simp only [decide_eq_true_eq]; omega
              have hT : tkR wait r 2 r.id nm size sum fr b = if 2000 < (putH r.hv fr b.length).length then ((zR, []), 2) else endR wait 2 (busy (putR r fr b)) := by
                unfold tkR
                rw [if_neg (by simp [h4]), if_neg h3, if_neg (by decide), if_neg (by rw [hc]; simp), if_pos rfl]
              rw [hT, d2]
              by_cases c2 : 2000 < (putH r.hv fr b.length).length
              · rw [if_pos c2, decide_eq_true c2]
                cases putS r.hv fr b.length <;> rfl
              · rw [if_neg c2, decide_eq_false c2]
                cases hq : putS r.hv fr b.length with
                | true =>
                  have := ttake92 (R := R) (k := j) (a0 := a0) (a1 := a1) (a2 := a2) (a3 := wait) (a4 := a4) (a5 := r.st) (a6 := r.id) (a7 := r.nm) (a8 := r.dat) (a9 := r.hv) (a10 := r.sz) (a11 := r.sum) (a12 := r.wt) (a13 := r.tr) (a14 := 2) (a15 := r.id) (a16 := nm) (a17 := size) (a18 := sum) (a19 := (fr : Int)) (a20 := b) (a21 := hs) (a22 := good) r.nm (putD r.dat r.hv fr b) (putH r.hv fr b.length) r.sz r.sum 0 (by omega) (by omega) (by omega) hU hz K
                  simp only [cond_true, cond_false, putR, hq, if_true]
                  exact this
                | false =>
                  have := ttake92 (R := R) (k := j) (a0 := a0) (a1 := a1) (a2 := a2) (a3 := wait) (a4 := a4) (a5 := r.st) (a6 := r.id) (a7 := r.nm) (a8 := r.dat) (a9 := r.hv) (a10 := r.sz) (a11 := r.sum) (a12 := r.wt) (a13 := r.tr) (a14 := 2) (a15 := r.id) (a16 := nm) (a17 := size) (a18 := sum) (a19 := (fr : Int)) (a20 := b) (a21 := hs) (a22 := good) r.nm (putD r.dat r.hv fr b) (putH r.hv fr b.length) r.sz r.sum r.tr (by omega) (by omega) (by omega) hU hz K
                  simp only [cond_true, cond_false, putR, hq, if_false, Bool.false_eq_true]
                  exact this
            · have hT : tkR wait r kind r.id nm size sum fr b = endR wait kind (busy (sizeR r kind nm size sum)) := by
                unfold tkR
                rw [if_neg (by simp [h4]; omega), if_neg h3, if_neg h6, if_neg (by rw [hc]; simp), if_neg h2]
              rw [hT]
              rcases (show kind = 1 ∨ kind = 3 by omega) with rfl | rfl
              · have hfig := hL.fig (.inl rfl)
                simp only [f61d, e119, hc, e4, e3, Int.reduceBEq, Int.reduceBNe, bne_self_eq_false, Bool.not_true, cond_true, cond_false, hTF, hFF, hTT, Bool.not_false, f61_1000015_def, f61_1000015d, f61_1000023_def, f61_1000023d]
                exact ttake92 (R := R) (k := j) (a0 := a0) (a1 := a1) (a2 := a2) (a3 := wait) (a4 := a4) (a5 := r.st) (a6 := r.id) (a7 := r.nm) (a8 := r.dat) (a9 := r.hv) (a10 := r.sz) (a11 := r.sum) (a12 := r.wt) (a13 := r.tr) (a14 := 1) (a15 := r.id) (a16 := nm) (a17 := size) (a18 := sum) (a19 := (fr : Int)) (a20 := b) (a21 := hs) (a22 := good) nm r.dat r.hv size sum r.tr (by omega) (by omega) (by omega) hu (by omega) K
              · have hfig := hL.fig (.inr rfl)
                simp only [f61d, e119, hc, e4, e3, Int.reduceBEq, Int.reduceBNe, bne_self_eq_false, Bool.not_true, cond_true, cond_false, hTF, hFF, hTT, Bool.not_false, f61_1000015_def, f61_1000015d, f61_1000023_def, f61_1000023d]
                exact ttake92 (R := R) (k := j) (a0 := a0) (a1 := a1) (a2 := a2) (a3 := wait) (a4 := a4) (a5 := r.st) (a6 := r.id) (a7 := r.nm) (a8 := r.dat) (a9 := r.hv) (a10 := r.sz) (a11 := r.sum) (a12 := r.wt) (a13 := r.tr) (a14 := 3) (a15 := r.id) (a16 := nm) (a17 := size) (a18 := sum) (a19 := (fr : Int)) (a20 := b) (a21 := hs) (a22 := good) r.nm r.dat r.hv size sum r.tr (by omega) (by omega) (by omega) hu (by omega) K
  · have eid : (id != r.id) = true := by simp [hid]
    rcases (show kind = 1 ∨ kind = 2 ∨ kind = 3 ∨ kind = 6 by omega) with rfl | rfl | rfl | rfl <;> simp [f61d, tkR, apRF, hid, eid]
end Go.Proofs.YtoepnomdklhhlaaGreat.PM
/- Plain laws of receivers: what a letter does, the document's side; Take. -/
set_option linter.unusedSimpArgs false
set_option linter.unusedVariables false
namespace Go.Proofs.YtoepnomdklhhlaaGreat.PM
open Go Go.Proofs.YtoepnomdklhhlaaGreat.Bt
variable {R : Type}
theorem L112 (x : Lt) : decide (([x] : List Lt).length ≤ LIM 112) = true := by rw [decide_eq_true_eq]; simp [LIM]
theorem can_srt0 {lim : Int} {l : List Rg} (h : Can (-1) l) (hu : ∀ x ∈ l, x.2.1 ≤ lim) : Srt lim 0 l := by
  cases l with
  | nil => trivial
  | cons x l =>
    obtain ⟨h1, h2, h3⟩ := h
    exact ⟨by omega, h2, hu x (by simp), can_srt h3 (fun y hy => hu y (by simp [hy]))⟩
theorem RFull.putH_srt {r : Rv} (hr : RFull r) {fr : Nat} {b : List Int} (hp : PutOk r.dat r.hv fr b) : Srt ((max (fr + b.length) r.dat.length : Nat) : Int) 0 (putH r.hv fr b.length) :=
  can_srt0 (jn_can hp.hv hp.one) (jn_to hp.hv hp.one)
theorem putH_len2 {dat : List Int} {hv : List Rg} {fr : Nat} {b : List Int} (hp : PutOk dat hv fr b) : (putH hv fr b.length).length ≤ 2001 := by
  have h1 := sweep_len (srtL (hv ++ [((fr : Int), ((fr : Int) + (b.length : Int), ()))]))
  have h2 := srtL_len (hv ++ [((fr : Int), ((fr : Int) + (b.length : Int), ()))])
  have h3 := hp.hv.len
  simp only [List.length_append, List.length_singleton] at h2
  unfold putH jn
  omega
/-- What Take answers. -/
noncomputable def takeR (a b c d e : Int) (r : Rv) (kind id : Int) (nm : ByteArray) (size sum fr : Int) (bs : List Int) (hs : List Rg) (good : Bool) : (Rv × List Lt) × Int :=
  if chkFig a b c d e ≠ 0 then ((zR, []), chkFig a b c d e) else if chkRecv r ≠ 0 then ((zR, []), chkRecv r)
  else if chkLetter kind id nm size sum fr bs hs good ≠ 0 then ((zR, []), chkLetter kind id nm size sum fr bs hs good)
  else tkR d r kind id nm size sum fr.toNat bs
end Go.Proofs.YtoepnomdklhhlaaGreat.PM

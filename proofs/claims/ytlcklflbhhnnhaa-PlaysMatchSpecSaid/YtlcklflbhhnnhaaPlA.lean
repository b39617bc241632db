/- Merged plain texts: PlL, PlLet, PlSend, PlSend2, PlRecv, PlRecv2, PlRecv3. -/
import Derived.Test.YtlcklflbhhnnhaaPT
import Derived.Test.YtlcklflbhhnnhaaBt
/- Plain laws of letters. -/
set_option linter.unusedSimpArgs false
set_option linter.unusedVariables false
namespace Go.Proofs.Ytlcklflbhhnnhaa.PM
open Go Go.Proofs.Ytlcklflbhhnnhaa.Bt
variable {R : Type}
theorem Q1 {k n : Nat} (h : n < k) : ∃ j, k = j + 1 := ⟨k - 1, by omega⟩
theorem Qh (a b : Int) : (a == b) = decide (a = b) := rfl
theorem Q1a (a b : Int) : (a != b) = !decide (a = b) := rfl
theorem wi {n : Int} (h0 : -9223372036854775808 ≤ n) (h1 : n < 9223372036854775808) : IntKind.i64.wrap n = n := by rw [IntKind.wrap_i64]; omega
theorem Qoa {a b : Int} (h : 0 ≤ a) : Int.tmod a b = a % b := Int.tmod_eq_emod_of_nonneg h
theorem Qhv {a b : Int} (h : 0 ≤ a) : Int.tdiv a b = a / b := Int.tdiv_eq_ediv_of_nonneg h
def inB (a lo hi : Int) : Bool := decide (lo ≤ a) && decide (a ≤ hi)
theorem Qe {a lo hi : Int} : inB a lo hi = true ↔ lo ≤ a ∧ a ≤ hi := by simp [inB]
theorem Qd {α : Type} {l : List α} {i : Nat} {d : α} (h : i < l.length) : l.getD i d = l[i] := by rw [List.getD_eq_getElem?_getD, List.getElem?_eq_getElem h]; rfl
theorem Qj5 {k : Nat} (hk : 0 < k) (a lo hi : Int) (K : Bool → Option R) : f66 k a lo hi K = K (inB a lo hi) := by
 rw [Qzn]
 obtain ⟨k, rfl⟩ := Q1 hk
 simp only [f66d, inB]
 cases decide (lo ≤ a) <;> rfl
theorem Qrl {k : Nat} (hk : 0 < k) (a lo hi : Int) (K : Bool → Option R) : f72 k a lo hi K = K (inB a lo hi) := by
 rw [Qzu]
 obtain ⟨k, rfl⟩ := Q1 hk
 simp only [f72d, inB, ge_iff_le]
 cases decide (lo ≤ a) <;> rfl
theorem Q1b6 {k : Nat} (hk : 0 < k) (a lo hi : Int) (K : Bool → Option R) : f105 k a lo hi K = K (inB a lo hi) := by
 rw [Qql]
 obtain ⟨k, rfl⟩ := Q1 hk
 simp only [f105d, inB, ge_iff_le]
 cases decide (lo ≤ a) <;> rfl
def sm : List Int → Nat → Int
 | [], _ => 0
 | b :: l, i => b * 2 ^ (24 - 8 * (i % 4)) + sm l (i + 1)
def U8 (l : List Int) : Prop := ∀ x ∈ l, 0 ≤ x ∧ x ≤ 255
theorem pw_le (i : Nat) : (1 : Int) ≤ 2 ^ (24 - 8 * (i % 4)) ∧ (2 : Int) ^ (24 - 8 * (i % 4)) ≤ 16777216 := by
 have h : i % 4 = 0 ∨ i % 4 = 1 ∨ i % 4 = 2 ∨ i % 4 = 3 := by omega
 rcases h with h | h | h | h <;> rw [h] <;> decide
theorem Qo7 {b : Int} (hb : 0 ≤ b ∧ b ≤ 255) (i : Nat) : 0 ≤ b * 2 ^ (24 - 8 * (i % 4)) ∧ b * 2 ^ (24 - 8 * (i % 4)) ≤ 4294967296 := by
 obtain ⟨h1, h2⟩ := pw_le i
 refine ⟨Int.mul_nonneg hb.1 (by omega), ?_⟩
 have := Int.mul_le_mul hb.2 h2 (by omega) (by omega)
 omega
theorem sm_le : ∀ {l : List Int} (hl : U8 l) (i : Nat), 0 ≤ sm l i ∧ sm l i ≤ l.length * 4294967296
 | [], _, _ => by simp [sm]
 | b :: l, hl, i => by
   have h1 := Qo7 (hl b (by simp)) i
   have h2 := sm_le (fun x hx => hl x (by simp [hx]) : U8 l) (i + 1)
   simp only [sm, List.length_cons]
   omega
theorem sh_eq (i : Nat) (hi : i < 100001) : IntKind.i64.wrap (24 - IntKind.i64.wrap (8 * Int.tmod (i : Int) 4)) = ((24 - 8 * (i % 4) : Nat) : Int) := by
 rw [Qoa (by omega), wi (n := 8 * ((i : Int) % 4)) (by omega) (by omega), wi (by omega) (by omega)]
 omega
theorem Qrj (k : Nat) (x0 : Int → Option R) (l : List Int) (hl : (l.length : Int) ≤ 100000) (hu : U8 l) : ∀ (d f i : Nat) (v : Int), i + d = l.length → d < f → 0 ≤ v → v ≤ i * 4294967296 →
  Q8b k x0 l (l.length : Int) f v (i : Int) = x0 (v + sm (l.drop i) i) := by
 intro d
 induction d with
 | zero =>
   intro f i v hi hf hv0 hv1
   obtain ⟨f, rfl⟩ := Q1 hf
   have h1 : decide ((i : Int) < (l.length : Int)) = false := by simp only [decide_eq_false_iff_not]; omega
   simp only [Q8b, Qzj, h1, cond_false]
   rw [List.drop_of_length_le (by omega)]
   simp [sm]
 | succ d ih =>
   intro f i v hi hf hv0 hv1
   obtain ⟨f, rfl⟩ := Q1 hf
   have h1 : decide ((i : Int) < (l.length : Int)) = true := by simp only [decide_eq_true_eq]; omega
   have h0 : decide ((0 : Int) ≤ (i : Int)) = true := by simp
   have hw : IntKind.i64.wrap ((i : Int) + 1) = ((i + 1 : Nat) : Int) := by rw [wi (by omega) (by omega)]; omega
   have hli : i < l.length := by omega
   have hb := hu l[i] (List.getElem_mem hli)
   have ht := Qo7 hb i
   have hs : decide ((0 : Int) ≤ ((24 - 8 * (i % 4) : Nat) : Int)) = true := by simp
   have hm : min (24 - 8 * (i % 4)) 64 = 24 - 8 * (i % 4) := by omega
   simp only [Q8b, Qzj, h1, h0, cond_true, Bool.and_self, Int.toNat_natCast, hw, sh_eq i (by omega), hs, hm]
   rw [Qd hli, wi (n := l[i]) (by omega) (by omega), wi (n := l[i] * 2 ^ (24 - 8 * (i % 4))) (by omega) (by omega), wi (n := v + _) (by omega) (by omega),
    ih f (i + 1) _ (by omega) (by omega) (by omega) (by omega), List.drop_eq_getElem_cons hli]
   simp only [sm]
   rw [Int.add_assoc]
theorem Q15p (k : Nat) (x0 : Int → Option R) (l : List Int) (hl : (l.length : Int) ≤ 100000) (hu : U8 l) : ∀ (d f i : Nat) (v : Int), i + d = l.length → d < f → 0 ≤ v → v ≤ i * 4294967296 →
  Q8c k x0 l f v (i : Int) = x0 (v + sm (l.drop i) i) := by
 intro d
 induction d with
 | zero =>
   intro f i v hi hf hv0 hv1
   obtain ⟨f, rfl⟩ := Q1 hf
   have h1 : decide ((i : Int) < (l.length : Int)) = false := by simp only [decide_eq_false_iff_not]; omega
   simp only [Q8c, Qzk, h1, cond_false]
   rw [List.drop_of_length_le (by omega)]
   simp [sm]
 | succ d ih =>
   intro f i v hi hf hv0 hv1
   obtain ⟨f, rfl⟩ := Q1 hf
   have h1 : decide ((i : Int) < (l.length : Int)) = true := by simp only [decide_eq_true_eq]; omega
   have h0 : decide ((0 : Int) ≤ (i : Int)) = true := by simp
   have hw : IntKind.i64.wrap ((i : Int) + 1) = ((i + 1 : Nat) : Int) := by rw [wi (by omega) (by omega)]; omega
   have hli : i < l.length := by omega
   have hb := hu l[i] (List.getElem_mem hli)
   have ht := Qo7 hb i
   have hs : decide ((0 : Int) ≤ ((24 - 8 * (i % 4) : Nat) : Int)) = true := by simp
   have hm : min (24 - 8 * (i % 4)) 64 = 24 - 8 * (i % 4) := by omega
   have hq : IntKind.u64.wrap ((24 - 8 * (i % 4) : Nat) : Int) = ((24 - 8 * (i % 4) : Nat) : Int) := Q13q _ (by omega) (by omega)
   simp only [Q8c, Qzk, h1, h0, cond_true, Bool.and_self, Int.toNat_natCast, hw, sh_eq i (by omega), hs, hm, hq]
   rw [Qd hli, wi (n := l[i]) (by omega) (by omega), wi (n := l[i] * 2 ^ (24 - 8 * (i % 4))) (by omega) (by omega), wi (n := v + _) (by omega) (by omega),
    ih f (i + 1) _ (by omega) (by omega) (by omega) (by omega), List.drop_eq_getElem_cons hli]
   simp only [sm]
   rw [Int.add_assoc]
def sumF (l : List Int) : Int × Int := if 100000 < l.length then (0, 2) else (sm l 0 % 4294967296, 0)
theorem Q1fh {k : Nat} {l : List Int} (hk : l.length + 3 < k) (hu : U8 l) (K : Int → Int → Option R) : f18 k l K = K (sumF l).1 (sumF l).2 := by
 rw [Qyz]
 obtain ⟨k, rfl⟩ := Q1 hk
 obtain ⟨k, rfl⟩ := Q1 (show l.length + 1 < k by omega)
 simp only [f18d, sumF]
 by_cases h : 100000 < l.length
 ·have h1 : decide ((l.length : Int) > 100000) = true := by simp only [decide_eq_true_eq]; omega
  simp only [h1, h, cond_true, if_true]
 ·have h1 : decide ((l.length : Int) > 100000) = false := by simp only [decide_eq_false_iff_not]; omega
  have h2 := sm_le hu 0
  simp only [h1, h, cond_false, if_false, Qmv, f64d, Qa6]
  refine (Qrj k _ l (by omega) hu l.length k 0 0 (by omega) (by omega) (by omega) (by omega)).trans ?_
  have := Qs5 (sm l 0) 32 (by omega) h2.1 (by omega)
  simp only [List.drop_zero, Int.zero_add]
  rw [show (4294967295 : Int) = 2 ^ 32 - 1 from rfl, this]
  rfl
theorem dlt (a b : Int) : decide (a < b) = !decide (b ≤ a) := by by_cases h : b ≤ a <;> simp [h] <;> omega
theorem dgt (a b : Int) : decide (a > b) = !decide (a ≤ b) := by by_cases h : a ≤ b <;> simp [h] <;> omega
def charOk (i : Nat) (c : Int) : Bool := (decide (97 ≤ c) && decide (c ≤ 122)) || (decide (i ≠ 0) && (decide (c = 45) || decide (c = 95) || (decide (48 ≤ c) && decide (c ≤ 57))))
def nameF : List Int → Nat → Bool
 | [], _ => true
 | c :: l, i => charOk i c && nameF l (i + 1)
noncomputable def nameOk (s : ByteArray) : Bool := decide (s.size ≠ 0) && decide (s.size ≤ 40) && nameF (bytesOf s) 0
theorem Q3c (s : ByteArray) : (bytesOf s).length = s.size := by simp only [bytesOf, List.length_map, Array.length_toList]; rfl
theorem Qrk (k : Nat) (K : Bool → Option R) (x0 : Option R) (s : ByteArray) (hs : s.size < 4611686018427387904) : ∀ (d f i : Nat), i + d = s.size → d < f →
  Q8d k K x0 s (s.size : Int) f (i : Int) = bif nameF ((bytesOf s).drop i) i then x0 else K false
 | d, 0, i, _, h => absurd h (Nat.not_lt_zero _)
 | 0, f + 1, i, hi, _ => by
   have h1 : decide ((i : Int) < (s.size : Int)) = false := by simp only [decide_eq_false_iff_not]; omega
   simp only [Q8d, Qzo, h1, cond_false]
   rw [List.drop_of_length_le (by rw [Q3c]; omega)]
   rfl
 | d + 1, f + 1, i, hi, hf => by
   have h1 : decide ((i : Int) < (s.size : Int)) = true := by simp only [decide_eq_true_eq]; omega
   have h0 : decide ((0 : Int) ≤ (i : Int)) = true := by simp
   have hw : IntKind.i64.wrap ((i : Int) + 1) = ((i + 1 : Nat) : Int) := by rw [wi (by omega) (by omega)]; omega
   have hli : i < (bytesOf s).length := by rw [Q3c]; omega
   have ih := Qrk k K x0 s hs d f (i + 1) (by omega) (by omega)
   simp only [Q8d, Qzo]
   generalize hc : (bytesOf s).getD (Int.toNat (i : Int)) 0 = c
   have hc' : (bytesOf s)[i] = c := by rw [← hc, Int.toNat_natCast, Qd hli]
   simp only [h1, h0, cond_true, Bool.and_self, hw, ih]
   rw [List.drop_eq_getElem_cons hli, hc']
   simp only [nameF]
   generalize nameF ((bytesOf s).drop (i + 1)) (i + 1) = z
   have hz : ((i : Int) == 0) = decide (i = 0) := by rw [Qh]; simp
   simp only [charOk, hz, Qh, Q1a, dlt, dgt, ge_iff_le]
   by_cases e1 : 97 ≤ c <;> by_cases e2 : c ≤ 122 <;> by_cases e3 : i = 0 <;> by_cases e4 : c = 45 <;> by_cases e5 : c = 95 <;> by_cases e6 : 48 ≤ c <;> by_cases e7 : c ≤ 57 <;>
    first | (exfalso; omega) | simp [e1, e2, e3, e4, e5, e6, e7]
theorem Qrm (k : Nat) (K : Bool → Option R) (x0 : Option R) (s : ByteArray) (hs : s.size < 4611686018427387904) : ∀ (d f i : Nat), i + d = s.size → d < f →
  Q8f k K x0 s f (i : Int) = bif nameF ((bytesOf s).drop i) i then x0 else K false
 | d, 0, i, _, h => absurd h (Nat.not_lt_zero _)
 | 0, f + 1, i, hi, _ => by
   have h1 : decide ((i : Int) < (s.size : Int)) = false := by simp only [decide_eq_false_iff_not]; omega
   simp only [Q8f, Qzv, h1, cond_false]
   rw [List.drop_of_length_le (by rw [Q3c]; omega)]
   rfl
 | d + 1, f + 1, i, hi, hf => by
   have h1 : decide ((i : Int) < (s.size : Int)) = true := by simp only [decide_eq_true_eq]; omega
   have h0 : decide ((0 : Int) ≤ (i : Int)) = true := by simp
   have hw : IntKind.i64.wrap ((i : Int) + 1) = ((i + 1 : Nat) : Int) := by rw [wi (by omega) (by omega)]; omega
   have hli : i < (bytesOf s).length := by rw [Q3c]; omega
   have ih := Qrm k K x0 s hs d f (i + 1) (by omega) (by omega)
   simp only [Q8f, Qzv]
   generalize hc : (bytesOf s).getD (Int.toNat (i : Int)) 0 = c
   have hc' : (bytesOf s)[i] = c := by rw [← hc, Int.toNat_natCast, Qd hli]
   simp only [h1, h0, cond_true, Bool.and_self, hw, ih]
   rw [List.drop_eq_getElem_cons hli, hc']
   simp only [nameF]
   generalize nameF ((bytesOf s).drop (i + 1)) (i + 1) = z
   have hz : ((i : Int) == 0) = decide (i = 0) := by rw [Qh]; simp
   simp only [charOk, hz, Qh, Q1a, dlt, dgt, ge_iff_le]
   by_cases e1 : 97 ≤ c <;> by_cases e2 : c ≤ 122 <;> by_cases e3 : i = 0 <;> by_cases e4 : c = 45 <;> by_cases e5 : c = 95 <;> by_cases e6 : 48 ≤ c <;> by_cases e7 : c ≤ 57 <;>
    first | (exfalso; omega) | simp [e1, e2, e3, e4, e5, e6, e7]
def emp (s : ByteArray) : Bool := s.toList == (⟨#[]⟩ : ByteArray).toList
theorem Q6b (s : ByteArray) : emp s = decide (s.size = 0) := by
 simp only [emp, ByteArray.toList_eq]
 have h1 : s.data.toList.length = s.size := rfl
 cases h : s.data.toList with
 | nil => rw [h] at h1; have : s.size = 0 := h1.symm; rw [this]; rfl
 | cons a l => rw [h] at h1; have : s.size ≠ 0 := by rw [← h1]; simp
               simp only [this, decide_false]; rfl
theorem Q1fo {k : Nat} {s : ByteArray} (hk : s.size + 1 < k) (hs : s.size < 4611686018427387904) (K : Bool → Option R) : f68 k s K = K (nameOk s) := by
 rw [Qzp]
 obtain ⟨k, rfl⟩ := Q1 hk
 have he : (s.toList == (⟨#[]⟩ : ByteArray).toList) = decide (s.size = 0) := Q6b s
 simp only [f68d, he, nameOk, Qj6]
 have h := Qrk k K (K true) s hs s.size k 0 (by omega) (by omega)
 rw [show ((0 : Nat) : Int) = 0 from rfl] at h
 rw [h]
 have hg : ∀ n : Nat, decide ((n : Int) > 40) = !decide (n ≤ 40) := by intro n; rw [Bool.eq_iff_iff]; simp only [Bool.not_eq_true', decide_eq_true_eq, decide_eq_false_iff_not]; omega
 have hne : decide (s.size ≠ 0) = !decide (s.size = 0) := by by_cases h : s.size = 0 <;> simp only [h, ne_eq, not_true_eq_false, not_false_eq_true, decide_true, decide_false, Bool.not_true, Bool.not_false]
 rw [hg, hne, List.drop_zero]
 cases decide (s.size = 0) <;> cases decide (s.size ≤ 40) <;> cases nameF (bytesOf s) 0 <;> rfl
theorem Q1fs {k : Nat} {s : ByteArray} (hk : s.size + 1 < k) (hs : s.size < 4611686018427387904) (K : Bool → Option R) : f74 k s K = K (nameOk s) := by
 rw [Qzw]
 obtain ⟨k, rfl⟩ := Q1 hk
 simp only [f74d, nameOk, Qj8, Q1b6 (show 0 < k by omega)]
 obtain ⟨k, rfl⟩ := Q1 (show 0 < k by omega)
 refine (Qrm (k + 1) K _ s hs s.size (k + 1) 0 (by omega) (by omega)).trans ?_
 rw [List.drop_zero]
 have hi : inB (s.size : Int) 1 40 = (decide (s.size ≠ 0) && decide (s.size ≤ 40)) := by
  rw [Bool.eq_iff_iff, Qe]; simp only [ne_eq, Bool.and_eq_true, decide_eq_true_eq]; omega
 rw [hi]
 cases nameF (bytesOf s) 0 <;> simp
def firstF : List Int → Int
 | [] => 0
 | x :: l => if x = 0 then firstF l else x
theorem Qdj (k : Nat) (K : Int → Option R) (l : List Int) (hl : l.length < 4611686018427387904) : ∀ (d f i : Nat), i + d = l.length → d < f →
  Q8e k K (K 0) l (l.length : Int) f (i : Int) = K (firstF (l.drop i))
 | d, 0, i, _, h => absurd h (Nat.not_lt_zero _)
 | 0, f + 1, i, hi, _ => by
   have h1 : decide ((i : Int) < (l.length : Int)) = false := by simp only [decide_eq_false_iff_not]; omega
   simp only [Q8e, Qzq, h1, cond_false]
   rw [List.drop_of_length_le (by omega)]
   rfl
 | d + 1, f + 1, i, hi, _ => by
   have h1 : decide ((i : Int) < (l.length : Int)) = true := by simp only [decide_eq_true_eq]; omega
   have h0 : decide ((0 : Int) ≤ (i : Int)) = true := by simp
   have hw : IntKind.i64.wrap ((i : Int) + 1) = ((i + 1 : Nat) : Int) := by rw [wi (by omega) (by omega)]; omega
   have hli : i < l.length := by omega
   simp only [Q8e, Qzq, h1, h0, cond_true, Bool.and_self, Int.toNat_natCast, hw]
   rw [Qd hli, List.drop_eq_getElem_cons hli, Q1a]
   by_cases e : l[i] = 0
   ·simp only [e, decide_true, Bool.not_true, cond_false, firstF, if_true]
    exact Qdj k K l hl d f (i + 1) (by omega) (by omega)
   ·simp only [e, decide_false, Bool.not_false, cond_true, firstF, if_false]
theorem Q1fp {k : Nat} {l : List Int} (hk : l.length + 1 < k) (hl : l.length < 4611686018427387904) (K : Int → Option R) : f69 k l K = K (firstF l) := by
 rw [Qzr]
 obtain ⟨k, rfl⟩ := Q1 hk
 simp only [f69d, Qj7]
 exact (Qdj k K l hl l.length k 0 (by omega) (by omega)).trans (by simp)
theorem Q1fq {k : Nat} (hk : 1 < k) (a lo hi : Int) (K : Int → Option R) : f70 k a lo hi K = K (if inB a lo hi then 0 else 1) := by
 rw [Qzs]
 obtain ⟨k, rfl⟩ := Q1 hk
 simp only [f70d, Qj5 (show 0 < k by omega)]
 cases inB a lo hi <;> rfl
abbrev Rg := Int × (Int × Unit)
def extra (kind : Int) (e : Bool) (a b c : Int) (m : Nat) (n : Nat) (f : Bool) : Bool :=
 !((decide (kind = 1) || e) && (decide (kind = 1) || decide (kind = 3) || (decide (a = 0) && decide (b = 0))) && (decide (kind = 2) || (decide (c = 0) && decide (m = 0))) && (decide (kind = 4) || decide (n = 0)) && (decide (kind = 5) || !f))
theorem lenpos (n : Nat) : decide ((n : Int) > 0) = !decide (n = 0) := by by_cases h : n = 0 <;> simp [h]; omega
theorem leneq (n : Nat) : decide ((n : Int) = 0) = decide (n = 0) := by simp
end Go.Proofs.Ytlcklflbhhnnhaa.PM
/- Plain laws of letters: ranges, letters, receivers' figures. -/
set_option linter.unusedSimpArgs false
set_option linter.unusedVariables false
namespace Go.Proofs.Ytlcklflbhhnnhaa.PM
open Go Go.Proofs.Ytlcklflbhhnnhaa.Bt
variable {R : Type}
def rgF (lim : Int) : Option Int → List Rg → Int
 | _, [] => 0
 | p, x :: l => if x.1 < 0 then 1 else if x.2.1 > lim then 1 else if x.2.1 ≤ x.1 then 13 else if (match p with | some e => decide (x.1 ≤ e) | none => false) then 8 else rgF lim (some x.2.1) l
def before (l : List Rg) (i : Nat) : Option Int := if i = 0 then none else some (l.getD (i - 1) (0, (0, ()))).2.1
def chkRgs (l : List Rg) (lim : Int) : Int := if inB lim 0 100000 = false then 1 else if 2000 < l.length then 2 else rgF lim none l
def headF (l : List Rg) : Bool := match l with | [] => false | x :: _ => decide (x.1 = -1) && decide (x.2.1 = 0)
def cutF (l : List Rg) : List Rg := bif headF l then l.drop 1 else l
theorem Q1fr {k : Nat} (hk : 1 < k) (l : List Rg) (K : List Rg → Bool → Option R) : f71 k l K = K (cutF l) (headF l) := by
 rw [Qzt]
 obtain ⟨k, rfl⟩ := Q1 hk
 obtain ⟨k, rfl⟩ := Q1 (show 0 < k by omega)
 simp only [f71d, Q90, f104d]
 cases l with
 | nil => simp [cutF, headF]
 | cons x l =>
   have h1 : decide (((x :: l).length : Int) > 0) = true := by simp only [decide_eq_true_eq, List.length_cons]; omega
   have h2 : decide (0 < ((x :: l).length : Int)) = true := by simp only [decide_eq_true_eq, List.length_cons]; omega
   have h3 : decide (1 ≤ ((x :: l).length : Int)) = true := by simp only [decide_eq_true_eq, List.length_cons]; omega
   simp only [h1, h2, h3, cond_true, cutF, headF, Qh, List.getD_cons_zero, Bool.and_true, beq_self_eq_true]
   cases decide (x.1 = -1) && decide (x.2.1 = 0) <;> rfl
theorem Qrn {k : Nat} (hk : 1 < k) (l : List Rg) (K : Bool → List Rg → Option R) : f75 k l K = K (headF l) (cutF l) := by
 rw [Qzx]
 obtain ⟨k, rfl⟩ := Q1 hk
 obtain ⟨k, rfl⟩ := Q1 (show 0 < k by omega)
 simp only [f75d, Qf6, f106d]
 cases l with
 | nil => simp [cutF, headF]
 | cons x l =>
   have h1 : decide (((x :: l).length : Int) > 0) = true := by simp only [decide_eq_true_eq, List.length_cons]; omega
   have h2 : decide (0 < ((x :: l).length : Int)) = true := by simp only [decide_eq_true_eq, List.length_cons]; omega
   have h3 : decide (1 ≤ ((x :: l).length : Int)) = true := by simp only [decide_eq_true_eq, List.length_cons]; omega
   simp only [h1, h2, h3, cond_true, cutF, headF, Qh, List.getD_cons_zero, Bool.and_true, beq_self_eq_true]
   cases decide (x.1 = -1) && decide (x.2.1 = 0) <;> rfl
theorem Qqa (l : List Rg) : (cutF l).length ≤ l.length := by
 unfold cutF
 cases headF l <;> simp
noncomputable def Qf (kind num : Int) (s : ByteArray) (a b c : Int) (l : List Int) (rs : List Rg) (f : Bool) : Int :=
 if inB kind 1 6 = false then 4 else if inB num 0 65535 = false then 1 else if extra kind (emp s) a b c l.length rs.length f = true then 3
 else if kind = 1 ∧ nameOk s = false then 5
 else if kind = 1 ∨ kind = 3 then (if inB a 0 100000 = true ∧ inB b 0 4294967295 = true then 0 else 1)
 else if kind = 2 then (if inB c 0 100000 = false then 1 else if l.length = 0 then 13 else if 4096 < l.length then 2 else if c + l.length > 100000 then 2 else 0)
 else if kind = 4 then (if rs.length = 0 then 9 else chkRgs (cutF rs) 100000) else 0
def chkFig (a b c d e : Int) : Int := if inB a 1 4096 && inB b 1 1000000 && inB c 1 100 && inB d 1 1000000 && inB e 0 50 then 0 else 1
theorem Q195 {k : Nat} (hk : 1 < k) (a b c d e : Int) (K : Int → Option R) : f22 k a b c d e K = K (chkFig a b c d e) := by
 rw [Qz0]
 obtain ⟨k, rfl⟩ := Q1 hk
 simp only [f22d, Qj5 (show 0 < k by omega), chkFig]
 cases inB a 1 4096 <;> cases inB b 1 1000000 <;> cases inB c 1 100 <;> cases inB d 1 1000000 <;> cases inB e 0 50 <;> rfl
theorem Q196 {k : Nat} (hk : 1 < k) (a b c d e : Int) (K : Int → Option R) : f23 k a b c d e K = K (chkFig a b c d e) := by
 rw [Qz1]
 obtain ⟨k, rfl⟩ := Q1 hk
 simp only [f23d, Qrl (show 0 < k by omega), chkFig]
 cases inB a 1 4096 <;> cases inB b 1 1000000 <;> cases inB c 1 100 <;> cases inB d 1 1000000 <;> cases inB e 0 50 <;> rfl
theorem Q197 {k : Nat} (hk : 20 < k) (K : Bool → Option R) : f24 k K = K true := by
 rw [Qz2]
 obtain ⟨k, rfl⟩ := Q1 hk
 have hu : U8 [1, 2, 3, 4] := by intro x hx; simp at hx; omega
 simp only [f24d, Q1fh (l := [1, 2, 3, 4]) (show 7 < k by omega) hu]
 rfl
end Go.Proofs.Ytlcklflbhhnnhaa.PM
/- Plain laws of senders. -/
set_option linter.unusedSimpArgs false
set_option linter.unusedVariables false
namespace Go.Proofs.Ytlcklflbhhnnhaa.PM
open Go Go.Proofs.Ytlcklflbhhnnhaa.Bt
variable {R : Type}
theorem LIM1 : LIM 1 = 140737488355328 := by simp [LIM]
theorem LIM16 : LIM 16 = 8796093022208 := by simp [LIM]
theorem LIM112 : 1000000 ≤ LIM 112 := by simp [LIM]
def sumOf (l : List Int) : Int := sm l 0 % 4294967296
theorem Qri {k : Nat} {l : List Int} (hk : l.length + 2 < k) (hl : (l.length : Int) ≤ 100000) (hu : U8 l) (K : Int → Option R) : f64 k l K = K (sumOf l) := by
 rw [Qmv]
 obtain ⟨k, rfl⟩ := Q1 hk
 have h2 := sm_le hu 0
 simp only [f64d, Qa6]
 refine (Qrj k _ l (by omega) hu l.length k 0 0 (by omega) (by omega) (by omega) (by omega)).trans ?_
 have := Qs5 (sm l 0) 32 (by omega) h2.1 (by omega)
 simp only [List.drop_zero, Int.zero_add]
 rw [show (4294967295 : Int) = 2 ^ 32 - 1 from rfl, this]
 rfl
theorem Qzm {k : Nat} {l : List Int} (hk : l.length + 2 < k) (hl : (l.length : Int) ≤ 100000) (hu : U8 l) (K : Int → Option R) : f65 k l K = K (sumOf l) := by
 rw [Qzl]
 obtain ⟨k, rfl⟩ := Q1 hk
 have h2 := sm_le hu 0
 simp only [f65d, Qj4]
 refine (Q15p k _ l (by omega) hu l.length k 0 0 (by omega) (by omega) (by omega) (by omega)).trans ?_
 simp only [List.drop_zero, Int.zero_add]
 rw [Qoa h2.1]
 rfl
theorem Q100 {k : Nat} {l : List Int} (hk : 0 < k) (hl : l.length ≤ 1000000000) (K : List Int → Option R) : f77 k l K = K l := by
 rw [Qzz]
 obtain ⟨k, rfl⟩ := Q1 hk
 have : decide (l.length ≤ LIM 1) = true := by rw [LIM1]; simp only [decide_eq_true_eq]; omega
 simp only [f77d, this, cond_true]
theorem Qy4 {k : Nat} {l : List Rg} (hk : 0 < k) (hl : l.length ≤ 1000000000) (K : List Rg → Option R) : f109 k l K = K l := by
 rw [Qqo]
 obtain ⟨k, rfl⟩ := Q1 hk
 have : decide (l.length ≤ LIM 16) = true := by rw [LIM16]; simp only [decide_eq_true_eq]; omega
 simp only [f109d, this, cond_true]
noncomputable def Qo (id : Int) (nm : ByteArray) (n : Nat) : Int := if inB id 0 65535 = false then 1 else if nameOk nm = false then 5 else if 100000 < n then 2 else 0
theorem Qxv (n : Nat) : decide ((n : Int) > 100000) = decide (100000 < n) := by rw [Bool.eq_iff_iff]; simp only [decide_eq_true_eq]; omega
theorem Q1ft {k : Nat} (id : Int) (s : ByteArray) (l : List Int) (hk : s.size + 4 < k) (hs : s.size < 4611686018427387904) (K : Int → Option R) : f76 k id s l K = K (Qo id s l.length) := by
 rw [Qzy]
 obtain ⟨k, rfl⟩ := Q1 hk
 simp only [f76d, Qj5 (show 0 < k by omega), Q1fo (show s.size + 1 < k by omega) hs, Qo, Qxv]
 cases inB id 0 65535
 ·rfl
 ·cases nameOk s
  ·rfl
  ·by_cases h : 100000 < l.length <;> simp [h]
theorem Q1fu {k : Nat} (id : Int) (s : ByteArray) (l : List Int) (hk : s.size + 4 < k) (hs : s.size < 4611686018427387904) (K : Int → Option R) : f78 k id s l K = K (Qo id s l.length) := by
 rw [Q101]
 obtain ⟨k, rfl⟩ := Q1 hk
 simp only [f78d, Qrl (show 0 < k by omega), Q1fs (show s.size + 1 < k by omega) hs, Qo, Qxv]
 cases inB id 0 65535
 ·rfl
 ·cases nameOk s
  ·rfl
  ·by_cases h : 100000 < l.length <;> simp [h]
theorem Qct {id : Int} {s : ByteArray} {n : Nat} (h : Qo id s n = 0) : n ≤ 100000 := by
 unfold Qo at h
 split at h
 ·cases h
 ·split at h
  ·cases h
  ·split at h
   ·cases h
   ·omega
structure Sd where
 st : Int
 id : Int
 nm : ByteArray
 dat : List Int
 nx : Int
 hs : List Rg
 wt : Int
 tr : Int
def zS : Sd := ⟨0, 0, ⟨#[]⟩, [], 0, [], 0, 0⟩
abbrev Lt := Int × (Int × (ByteArray × (Int × (Int × (Int × (List Int × (List Rg × (Bool × Unit))))))))
noncomputable def beginF (id : Int) (nm : ByteArray) (l : List Int) : Sd × Int := if Qo id nm l.length = 0 then (⟨1, id, nm, l, -1, [], 0, 0⟩, 0) else (zS, Qo id nm l.length)
theorem Q1fi {k : Nat} (id : Int) (s : ByteArray) (l : List Int) (hk : s.size + 5 < k) (hs : s.size < 4611686018427387904) (K : Int → Int → ByteArray → Int → Int → Int → Int → List Int → Option R) :
  f26 k id s l K = K (beginF id s l).1.st (beginF id s l).1.id (beginF id s l).1.nm (beginF id s l).1.nx (beginF id s l).1.wt (beginF id s l).1.tr (beginF id s l).2 (beginF id s l).1.dat := by
 rw [Qz4]
 obtain ⟨k, rfl⟩ := Q1 hk
 simp only [f26d, Q1fu id s l (show s.size + 4 < k by omega) hs, Q1a, beginF]
 by_cases h : Qo id s l.length = 0
 ·have := Qct h
  have h1 : decide (l.length ≤ LIM 1) = true := by rw [LIM1]; simp only [decide_eq_true_eq]; omega
  simp only [h, decide_true, Bool.not_true, cond_false, if_true, h1, cond_true]
 ·simp [h, zS]
noncomputable def Q5l (s : Sd) : Int :=
 if Qo s.id s.nm s.dat.length ≠ 0 then Qo s.id s.nm s.dat.length else if inB s.st 1 4 = false then 4
 else if inB s.nx (-1) s.dat.length = false then 1 else if inB s.wt 0 1000000 = false then 1 else if inB s.tr 0 50 = false then 1
 else if chkRgs (cutF s.hs) s.dat.length ≠ 0 then chkRgs (cutF s.hs) s.dat.length
 else if s.st = 2 then (if s.nx = s.dat.length ∧ s.hs.length = 0 ∧ s.wt ≠ 0 then 0 else 11) else if s.wt = 0 then 0 else 11
def RgOk (n : Int) (x : Rg) : Prop := 0 ≤ x.1 ∧ x.1 < x.2.1 ∧ x.2.1 ≤ n
theorem Q19m {lim : Int} : ∀ {p : Option Int} {l : List Rg}, rgF lim p l = 0 → ∀ x ∈ l, RgOk lim x
 | _, [], _, x, hx => by cases hx
 | p, y :: l, h, x, hx => by
   have hb : RgOk lim y ∧ rgF lim (some y.2.1) l = 0 := by
    simp only [rgF] at h
    by_cases q1 : y.1 < 0
    ·simp [q1] at h
    by_cases q2 : y.2.1 > lim
    ·simp [q1, q2] at h
    by_cases q3 : y.2.1 ≤ y.1
    ·simp [q1, q2, q3] at h
    have hr : RgOk lim y := ⟨by omega, by omega, by omega⟩
    cases p with
    | none => exact ⟨hr, by simpa [q1, q2, q3] using h⟩
    | some e =>
      by_cases q4 : y.1 ≤ e
      ·simp [q1, q2, q3, q4] at h
      ·exact ⟨hr, by simpa [q1, q2, q3, q4] using h⟩
   rcases List.mem_cons.1 hx with rfl | hx
   ·exact hb.1
   ·exact Q19m hb.2 x hx
theorem Qiu {l : List Rg} {lim : Int} (h : chkRgs l lim = 0) : (0 ≤ lim ∧ lim ≤ 100000) ∧ l.length ≤ 2000 ∧ ∀ x ∈ l, RgOk lim x := by
 unfold chkRgs at h
 split at h
 ·cases h
 ·rename_i h1
  split at h
  ·cases h
  ·exact ⟨Qe.1 (by simpa using h1), by omega, Q19m h⟩
structure SInv (s : Sd) : Prop where
 len : (s.dat.length : Int) ≤ 100000
 u8 : U8 s.dat
 nx0 : -1 ≤ s.nx
 nx1 : s.nx ≤ s.dat.length
 hsl : s.hs.length ≤ 2001
 rg : ∀ x ∈ cutF s.hs, RgOk s.dat.length x
theorem Qjl {l : List Rg} {n : Int} (h : ∀ x ∈ l, RgOk n x) : headF l = false := by
 cases l with
 | nil => rfl
 | cons x l =>
   have := (h x (by simp)).1
   have h1 : ¬ x.1 = -1 := by omega
   simp [headF, h1]
theorem Q2w {l : List Rg} (h : headF l = false) : cutF l = l := by simp [cutF, h]
def metaL (s : Sd) : Lt := (1, (s.id, (s.nm, ((s.dat.length : Int), (sumOf s.dat, (0, ([], ([], (false, ())))))))))
def endL (s : Sd) : Lt := (3, (s.id, (⟨#[]⟩, ((s.dat.length : Int), (sumOf s.dat, (0, ([], ([], (false, ())))))))))
def dataL (s : Sd) (a b : Int) : Lt := (2, (s.id, (⟨#[]⟩, (0, (0, (a, ((s.dat.take b.toNat).drop a.toNat, ([], (false, ())))))))))
def mn (a b : Int) : Int := if a < b then a else b
def oneS (seg wait : Int) (s : Sd) : Sd × Lt :=
 if s.nx < 0 then ({ s with nx := 0 }, metaL s)
 else if headF s.hs = true then ({ s with hs := cutF s.hs }, metaL s)
 else match s.hs with
 | x :: r => ({ s with hs := if mn (x.1 + seg) x.2.1 < x.2.1 then (mn (x.1 + seg) x.2.1, (x.2.1, ())) :: r else r }, dataL s x.1 (mn (x.1 + seg) x.2.1))
 | [] => if s.nx < s.dat.length then ({ s with nx := mn (s.nx + seg) s.dat.length }, dataL s s.nx (mn (s.nx + seg) s.dat.length)) else ({ s with st := 2, wt := wait }, endL s)
theorem Qsd {seg wait : Int} (hg : 1 ≤ seg) {s : Sd} (h : SInv s) : SInv (oneS seg wait s).1 := by
 obtain ⟨h1, h2, h3, h4, h5, h6⟩ := h
 unfold oneS
 split
 ·exact ⟨h1, h2, by show (-1 : Int) ≤ 0; omega, by show (0 : Int) ≤ s.dat.length; omega, h5, h6⟩
 ·split
  ·rename_i hn hh
   have := Qqa s.hs
   refine ⟨h1, h2, h3, h4, by show (cutF s.hs).length ≤ 2001; omega, ?_⟩
   show ∀ x ∈ cutF (cutF s.hs), RgOk s.dat.length x
   rw [Q2w (Qjl h6)]
   exact h6
  ·rename_i hn hh
   have hh : headF s.hs = false := by simpa using hh
   rw [Q2w hh] at h6
   split
   ·rename_i x r e
    rw [e] at h5 h6
    have hx := h6 x (by simp)
    have hr : ∀ y ∈ r, RgOk s.dat.length y := fun y hy => h6 y (by simp [hy])
    simp only [List.length_cons] at h5
    refine ⟨h1, h2, h3, h4, ?_, ?_⟩
    ·show (if mn (x.1 + seg) x.2.1 < x.2.1 then (mn (x.1 + seg) x.2.1, (x.2.1, ())) :: r else r).length ≤ 2001
     split
     ·simp only [List.length_cons]; omega
     ·omega
    ·show ∀ y ∈ cutF (if mn (x.1 + seg) x.2.1 < x.2.1 then (mn (x.1 + seg) x.2.1, (x.2.1, ())) :: r else r), RgOk s.dat.length y
     have hall : ∀ y ∈ (if mn (x.1 + seg) x.2.1 < x.2.1 then (mn (x.1 + seg) x.2.1, (x.2.1, ())) :: r else r), RgOk s.dat.length y := by
      split
      ·rename_i hm
       intro y hy
       rcases List.mem_cons.1 hy with rfl | hy
       ·refine ⟨?_, hm, hx.2.2⟩
        show 0 ≤ mn (x.1 + seg) x.2.1
        have := hx.1
        have := hx.2.1
        unfold mn; split <;> omega
       ·exact hr y hy
      ·exact hr
     rw [Q2w (Qjl hall)]
     exact hall
   ·rename_i e
    split
    ·refine ⟨h1, h2, ?_, ?_, h5, by rw [← Q2w hh] at h6; exact h6⟩
     ·show -1 ≤ mn (s.nx + seg) s.dat.length
      unfold mn; split <;> omega
     ·show mn (s.nx + seg) s.dat.length ≤ s.dat.length
      unfold mn; split <;> omega
    ·exact ⟨h1, h2, h3, h4, h5, by rw [← Q2w hh] at h6; exact h6⟩
def apSL (K : Int → Int → ByteArray → List Int → Int → List Rg → Int → Int → Int → Int → ByteArray → Int → Int → Int → Bool → List Int → Option R) (x : Sd × Lt) : Option R :=
 K x.1.st x.1.id x.1.nm x.1.dat x.1.nx x.1.hs x.1.wt x.1.tr x.2.1 x.2.2.1 x.2.2.2.1 x.2.2.2.2.1 x.2.2.2.2.2.1 x.2.2.2.2.2.2.1 x.2.2.2.2.2.2.2.2.2.1 x.2.2.2.2.2.2.2.1
theorem Qy3 {k : Nat} {l : List Int} (hk : l.length + 3 < k) (hl : (l.length : Int) ≤ 100000) (hu : U8 l) (st id : Int) (nm : ByteArray) (nx : Int) (hs : List Rg) (wt tr : Int)
  (K : Int → Int → ByteArray → Int → Int → Int → Bool → Option R) : f107 k st id nm l nx hs wt tr K = K 3 id ⟨#[]⟩ l.length (sumOf l) 0 false := by
 rw [Qqm]
 obtain ⟨k, rfl⟩ := Q1 hk
 simp only [f107d, Qri (show l.length + 2 < k by omega) hl hu]
theorem Qy5 {k : Nat} {l : List Int} (hk : l.length + 3 < k) (hl : (l.length : Int) ≤ 100000) (hu : U8 l) (st id : Int) (nm : ByteArray) (nx : Int) (hs : List Rg) (wt tr : Int)
  (K : Int → Int → ByteArray → Int → Int → Int → Bool → Option R) : f110 k st id nm l nx hs wt tr K = K 3 id ⟨#[]⟩ l.length (sumOf l) 0 false := by
 rw [Qqp]
 obtain ⟨k, rfl⟩ := Q1 hk
 simp only [f110d, Qzm (show l.length + 2 < k by omega) hl hu]
theorem Q1bg {k : Nat} {l : List Int} (hk : l.length + 3 < k) (hl : (l.length : Int) ≤ 100000) (hu : U8 l) (st id : Int) (nm : ByteArray) (nx : Int) (hs : List Rg) (wt tr : Int)
  (K : Int → Int → ByteArray → Int → Int → Int → Bool → Option R) : f129 k st id nm l nx hs wt tr K = K 1 id nm l.length (sumOf l) 0 false := by
 rw [Qr6]
 obtain ⟨k, rfl⟩ := Q1 hk
 simp only [f129d, Qzm (show l.length + 2 < k by omega) hl hu]
theorem Qk4 {l : List Int} (a b : Nat) : ((l.take b).drop a).length ≤ l.length := by simp only [List.length_drop, List.length_take]; omega
theorem Qyw {k : Nat} {l : List Int} (hk : 2 < k) (hl : (l.length : Int) ≤ 100000) {a n : Int} (ha : 0 ≤ a) (hn : 0 ≤ n) (hb : a + n ≤ l.length) (st id : Int) (nm : ByteArray) (nx : Int) (hs : List Rg) (wt tr : Int)
  (K : Int → Int → ByteArray → Int → Int → Int → Bool → List Int → Option R) : f128 k st id nm l nx hs wt tr a n K = K 2 id ⟨#[]⟩ 0 0 a false ((l.take (a + n).toNat).drop a.toNat) := by
 rw [Qr5]
 obtain ⟨k, rfl⟩ := Q1 hk
 simp only [f128d]
 rw [wi (n := a + n) (by omega) (by omega)]
 have h1 : decide (0 ≤ a) = true := by simp only [decide_eq_true_eq]; omega
 have h2 : decide (a ≤ a + n) = true := by simp only [decide_eq_true_eq]; omega
 have h3 : decide (a + n ≤ (l.length : Int)) = true := by simp only [decide_eq_true_eq]; omega
 have := Qk4 (l := l) a.toNat (a + n).toNat
 simp only [h1, h2, h3, Bool.and_self, cond_true, Q100 (l := (l.take (a + n).toNat).drop a.toNat) (show 0 < k by omega) (by omega)]
theorem Qmu {k : Nat} {l : List Int} (hk : 2 < k) (hl : (l.length : Int) ≤ 100000) {a b : Int} (ha : 0 ≤ a) (hn : a ≤ b) (hb : b ≤ l.length) (st id : Int) (nm : ByteArray) (nx : Int) (hs : List Rg) (wt tr : Int)
  (K : Int → Int → ByteArray → Int → Int → Int → Bool → List Int → Option R) : f130 k st id nm l nx hs wt tr a b K = K 2 id ⟨#[]⟩ 0 0 a false ((l.take b.toNat).drop a.toNat) := by
 rw [Qr7]
 obtain ⟨k, rfl⟩ := Q1 hk
 simp only [f130d]
 have h1 : decide (0 ≤ a) = true := by simp only [decide_eq_true_eq]; omega
 have h2 : decide (a ≤ b) = true := by simp only [decide_eq_true_eq]; omega
 have h3 : decide (b ≤ (l.length : Int)) = true := by simp only [decide_eq_true_eq]; omega
 have := Qk4 (l := l) a.toNat b.toNat
 have h4 : decide (((l.take b.toNat).drop a.toNat).length ≤ LIM 1) = true := by rw [LIM1]; simp only [decide_eq_true_eq]; omega
 simp only [h1, h2, h3, h4, Bool.and_self, cond_true]
theorem Qmh {k : Nat} {l : List Rg} (hk : 0 < k) (hl : l.length ≤ 1000000000) (K : List Rg → Option R) : f118 k false l K = K l := by
 rw [Qfb]
 obtain ⟨k, rfl⟩ := Q1 hk
 have : decide (([] : List Rg).length + l.length ≤ LIM 16) = true := by rw [LIM16]; simp only [decide_eq_true_eq, List.length_nil]; omega
 simp only [f118d, Q49, Q6d, cond_false, this, cond_true, List.nil_append]
theorem Q19k {a seg b : Int} : a + mn seg (b - a) = mn (a + seg) b := by unfold mn; split <;> split <;> omega
theorem Q1b7 {k : Nat} (seg x2 x3 wait x5 : Int) (s : Sd) (hg : 1 ≤ seg ∧ seg ≤ 4096) (hi : SInv s) (hk : s.dat.length + 10 < k)
  (K : Int → Int → ByteArray → List Int → Int → List Rg → Int → Int → Int → Int → ByteArray → Int → Int → Int → Bool → List Int → Option R) :
  f108 k seg x2 x3 wait x5 s.st s.id s.nm s.dat s.nx s.hs s.wt s.tr K = apSL K (oneS seg wait s) := by
 obtain ⟨h1, h2, h3, h4, h5, h6⟩ := hi
 rw [Qqn]
 obtain ⟨k, rfl⟩ := Q1 hk
 simp only [f108d, Q90, Qri (show s.dat.length + 2 < k by omega) h1 h2, Qy3 (show s.dat.length + 3 < k by omega) h1 h2, Qh, oneS]
 by_cases e1 : s.nx < 0
 ·have : s.nx = -1 := by omega
  simp only [this, decide_true, cond_true]
  simp [apSL, metaL]
 ·have e1' : ¬ s.nx = -1 := by omega
  simp only [e1, e1', decide_false, cond_false, if_false]
  obtain ⟨k, rfl⟩ := Q1 (show 0 < k by omega)
  simp only [f104d]
  have hw0 : IntKind.i64.wrap (s.dat.length - s.nx) = s.dat.length - s.nx := wi (by omega) (by omega)
  cases e : s.hs with
  | nil =>
    have hh : headF ([] : List Rg) = false := rfl
    have z1 : decide (((([] : List Rg)).length : Int) > 0) = false := by simp
    simp only [z1, hh, Bool.false_eq_true, if_false, cond_false]
    rw [show (false == true) = false from rfl]
    simp only [cond_false, hw0]
    by_cases e2 : s.nx < s.dat.length
    ·have hm : mn seg (s.dat.length - s.nx) = if seg < s.dat.length - s.nx then seg else s.dat.length - s.nx := rfl
     rw [← hm]
     have hm0 : 0 ≤ mn seg (s.dat.length - s.nx) := by unfold mn; split <;> omega
     have hm1 : s.nx + mn seg (s.dat.length - s.nx) ≤ s.dat.length := by unfold mn; split <;> omega
     rw [wi (n := s.nx + mn seg (s.dat.length - s.nx)) (by omega) (by omega)]
     simp only [e2, decide_true, cond_true, if_true, Qyw (show 2 < k + 1 by omega) h1 (show 0 ≤ s.nx by omega) hm0 hm1, apSL, dataL, Q19k, e]
    ·simp only [e2, decide_false, cond_false, if_false, apSL, endL, e]
  | cons x r =>
    have z1 : decide (((x :: r).length : Int) > 0) = true := by simp only [decide_eq_true_eq, List.length_cons]; omega
    have z2 : decide (0 < ((x :: r).length : Int)) = true := by simp only [decide_eq_true_eq, List.length_cons]; omega
    have z3 : decide (1 ≤ ((x :: r).length : Int)) = true := by simp only [decide_eq_true_eq, List.length_cons]; omega
    rw [e] at h5 h6
    simp only [List.length_cons] at h5
    simp only [z1, z2, z3, cond_true, beq_self_eq_true, List.getD_cons_zero, Bool.and_true]
    cases hh : headF (x :: r)
    ·have hh' : (decide (x.1 = -1) && decide (x.2.1 = 0)) = false := hh
     rw [Q2w hh] at h6
     obtain ⟨hx1, hx2, hx3⟩ := h6 x (by simp)
     rw [wi (n := x.2.1 - x.1) (by omega) (by omega)]
     have hm : mn seg (x.2.1 - x.1) = if seg < x.2.1 - x.1 then seg else x.2.1 - x.1 := rfl
     rw [← hm]
     have hm0 : 0 ≤ mn seg (x.2.1 - x.1) := by unfold mn; split <;> omega
     have hm1 : x.1 + mn seg (x.2.1 - x.1) ≤ s.dat.length := by unfold mn; split <;> omega
     simp only [hh', cond_false, Qyw (show 2 < k + 1 by omega) h1 hx1 hm0 hm1, Qy4 (l := x :: r) (show 0 < k + 1 by omega) (by simp only [List.length_cons]; omega), z2, cond_true, List.getD_cons_zero,
      List.set_cons_zero, List.length_cons]
     rw [wi (n := x.1 + mn seg (x.2.1 - x.1)) (by omega) (by omega), Q19k]
     have z4 : decide (0 < (((r.length + 1 : Nat)) : Int)) = true := by simp only [decide_eq_true_eq]; omega
     have z5 : decide (1 ≤ (((r.length + 1 : Nat)) : Int)) = true := by simp only [decide_eq_true_eq]; omega
     simp only [z4, z5, cond_true, Q7q, Q9q, List.length_cons, List.drop_succ_cons, List.drop_zero, Nat.add_sub_cancel, List.take_length]
     by_cases e3 : mn (x.1 + seg) x.2.1 = x.2.1
     ·have e4 : ¬ mn (x.1 + seg) x.2.1 < x.2.1 := by omega
      simp only [e3, decide_true, cond_true, Int.lt_irrefl, if_false, apSL, dataL, Bool.false_eq_true]
     ·have e4 : mn (x.1 + seg) x.2.1 < x.2.1 := by 
       have : mn (x.1 + seg) x.2.1 ≤ x.2.1 := by unfold mn; split <;> omega
       omega
      simp only [e3, decide_false, cond_false, e4, if_true, if_false, apSL, dataL, Bool.false_eq_true]
    ·have hh' : (decide (x.1 = -1) && decide (x.2.1 = 0)) = true := hh
     simp only [hh', cond_true, if_true, List.drop_succ_cons, List.drop_zero, Qy4 (l := r) (show 0 < k + 1 by omega) (by omega), Qri (show s.dat.length + 2 < k + 1 by omega) h1 h2, apSL, metaL, cutF, hh]
end Go.Proofs.Ytlcklflbhhnnhaa.PM
/- Plain laws of senders: the reference's letter, ticks. -/
set_option linter.unusedSimpArgs false
set_option linter.unusedVariables false
namespace Go.Proofs.Ytlcklflbhhnnhaa.PM
open Go Go.Proofs.Ytlcklflbhhnnhaa.Bt
variable {R : Type}
def apLS (K : Int → Int → ByteArray → Int → Int → Int → Bool → Int → Int → ByteArray → List Int → Int → List Rg → Int → Int → List Int → Option R) (x : Sd × Lt) : Option R :=
 K x.2.1 x.2.2.1 x.2.2.2.1 x.2.2.2.2.1 x.2.2.2.2.2.1 x.2.2.2.2.2.2.1 x.2.2.2.2.2.2.2.2.2.1 x.1.st x.1.id x.1.nm x.1.dat x.1.nx x.1.hs x.1.wt x.1.tr x.2.2.2.2.2.2.2.1
theorem Q1b8 {k : Nat} (seg x2 x3 wait x5 : Int) (s : Sd) (hg : 1 ≤ seg ∧ seg ≤ 4096) (hi : SInv s) (hk : s.dat.length + 10 < k)
  (K : Int → Int → ByteArray → Int → Int → Int → Bool → Int → Int → ByteArray → List Int → Int → List Rg → Int → Int → List Int → Option R) :
  f111 k seg x2 x3 wait x5 s.st s.id s.nm s.dat s.nx s.hs s.wt s.tr K = apLS K (oneS seg wait s) := by
 obtain ⟨h1, h2, h3, h4, h5, h6⟩ := hi
 rw [Qqq]
 obtain ⟨k, rfl⟩ := Q1 hk
 have hcl := Qqa s.hs
 simp only [f111d, Qrn (show 1 < k by omega), Qy5 (show s.dat.length + 3 < k by omega) h1 h2, Q1bg (show s.dat.length + 3 < k by omega) h1 h2, Qh, oneS,
  Qmh (l := cutF s.hs) (show 0 < k by omega) (by omega)]
 by_cases e1 : s.nx < 0
 ·simp only [e1, decide_true, cond_true, if_true, apLS, metaL]
 ·simp only [e1, decide_false, cond_false, if_false]
  cases hh : headF s.hs
  ·rw [Q2w hh] at h6 ⊢
   simp only [cond_false, Bool.false_eq_true, if_false]
   cases e : s.hs with
   | nil =>
     have z1 : decide (((([] : List Rg)).length : Int) > 0) = false := by simp
     simp only [z1, cond_false]
     rw [wi (n := s.nx + seg) (by omega) (by omega)]
     have hm : mn (s.nx + seg) s.dat.length = if s.nx + seg < s.dat.length then s.nx + seg else s.dat.length := rfl
     rw [← hm]
     by_cases e2 : s.nx < s.dat.length
     ·have hm0 : s.nx ≤ mn (s.nx + seg) s.dat.length := by unfold mn; split <;> omega
      have hm1 : mn (s.nx + seg) s.dat.length ≤ s.dat.length := by unfold mn; split <;> omega
      simp only [e2, decide_true, cond_true, if_true, Qmu (show 2 < k by omega) h1 (show 0 ≤ s.nx by omega) hm0 hm1, apLS, dataL, e]
     ·simp only [e2, decide_false, cond_false, if_false, apLS, endL, e]
   | cons x r =>
     have z1 : decide (((x :: r).length : Int) > 0) = true := by simp only [decide_eq_true_eq, List.length_cons]; omega
     have z2 : decide (0 < ((x :: r).length : Int)) = true := by simp only [decide_eq_true_eq, List.length_cons]; omega
     have z3 : decide (1 ≤ ((x :: r).length : Int)) = true := by simp only [decide_eq_true_eq, List.length_cons]; omega
     rw [e] at h5 h6
     simp only [List.length_cons] at h5
     obtain ⟨hx1, hx2, hx3⟩ := h6 x (by simp)
     simp only [z1, z2, z3, cond_true, List.getD_cons_zero, List.drop_succ_cons, List.drop_zero]
     rw [wi (n := x.1 + seg) (by omega) (by omega)]
     have hm : mn (x.1 + seg) x.2.1 = if x.1 + seg < x.2.1 then x.1 + seg else x.2.1 := rfl
     rw [← hm]
     have hm0 : x.1 ≤ mn (x.1 + seg) x.2.1 := by unfold mn; split <;> omega
     have hm1 : mn (x.1 + seg) x.2.1 ≤ s.dat.length := by unfold mn; split <;> omega
     have hL : LIM 16 = 8796093022208 := LIM16
     simp only [Q7r, Q9r, z2, cond_true, List.getD_cons_zero, hL, List.length_cons, List.length_nil]
     have y1 : decide (0 + 1 ≤ 8796093022208) = true := by decide
     have y2 : decide (0 + 1 + r.length ≤ 8796093022208) = true := by simp only [decide_eq_true_eq]; omega
     have y3 : decide (0 + r.length ≤ 8796093022208) = true := by simp only [decide_eq_true_eq]; omega
     have z4 : decide (0 < (((r.length + 1 : Nat)) : Int)) = true := by simp only [decide_eq_true_eq]; omega
     have z5 : decide (1 ≤ (((r.length + 1 : Nat)) : Int)) = true := by simp only [decide_eq_true_eq]; omega
     simp only [z4, z5, cond_true]
     by_cases e4 : mn (x.1 + seg) x.2.1 < x.2.1
     ·simp only [e4, decide_true, cond_true, y1, y2, if_true, Qmu (show 2 < k by omega) h1 hx1 hm0 hm1, apLS, dataL, List.cons_append, List.nil_append]
     ·simp only [e4, decide_false, cond_false, cond_true, y3, if_false, Qmu (show 2 < k by omega) h1 hx1 hm0 hm1, apLS, dataL, List.cons_append, List.nil_append]
  ·simp only [cond_true, if_true, apLS, metaL]
def runS (seg wait : Int) : Nat → Sd → List Lt → Sd × List Lt
 | 0, s, o => (s, o)
 | d + 1, s, o => if s.st = 1 then runS seg wait d (oneS seg wait s).1 (o ++ [(oneS seg wait s).2]) else (s, o)
theorem Qsc (seg wait : Int) (s : Sd) : ((oneS seg wait s).2.1, ((oneS seg wait s).2.2.1, ((oneS seg wait s).2.2.2.1, ((oneS seg wait s).2.2.2.2.1, ((oneS seg wait s).2.2.2.2.2.1, ((oneS seg wait s).2.2.2.2.2.2.1, ((oneS seg wait s).2.2.2.2.2.2.2.1, (([] : List Rg), ((oneS seg wait s).2.2.2.2.2.2.2.2.2.1, ()))))))))) = (oneS seg wait s).2 := by
 unfold oneS
 split
 ·rfl
 ·split
  ·rfl
  ·split
   ·rfl
   ·split <;> rfl
theorem Qsb (seg wait : Int) (s : Sd) : (oneS seg wait s).1.dat = s.dat := by
 unfold oneS
 split
 ·rfl
 ·split
  ·rfl
  ·split
   ·rfl
   ·split <;> rfl
def apSO (K : Int → Int → ByteArray → List Int → Int → List Rg → Int → Int → List Lt → Option R) (x : Sd × List Lt) : Option R := K x.1.st x.1.id x.1.nm x.1.dat x.1.nx x.1.hs x.1.wt x.1.tr x.2
theorem Q15q (k : Nat) (x0 : Int → Int → ByteArray → List Int → Int → List Rg → Int → Int → List Lt → Option R) (seg x2 wait x5 : Int) (rate : Nat) (hr : rate ≤ 100) (hg : 1 ≤ seg ∧ seg ≤ 4096) (y0 y1 : Int) (y2 : ByteArray) (y3 y4 y5 : Int) :
  ∀ (d f : Nat) (s : Sd) (o : List Lt), o.length + d = rate → d < f → SInv s → s.dat.length + 10 < k →
  Q8g k x0 seg x2 (rate : Int) wait x5 y0 y1 y2 y3 y4 y5 f s.st s.id s.nm s.dat s.nx s.hs s.wt s.tr o = apSO x0 (runS seg wait d s o) := by
 intro d
 induction d with
 | zero =>
   intro f s o ho hf hi hk
   obtain ⟨f, rfl⟩ := Q1 hf
   have h1 : decide ((o.length : Int) < (rate : Int)) = false := by simp only [decide_eq_false_iff_not]; omega
   simp only [Q8g, Q102, h1]
   rfl
 | succ d ih =>
   intro f s o ho hf hi hk
   obtain ⟨f, rfl⟩ := Q1 hf
   have h1 : decide ((o.length : Int) < (rate : Int)) = true := by simp only [decide_eq_true_eq]; omega
   simp only [Q8g, Q102, h1, beq_self_eq_true, cond_true, Qh, runS]
   by_cases e : s.st = 1
   ·have hL := LIM112
    have h2 : decide (o.length + ([(oneS seg wait s).2] : List Lt).length ≤ LIM 112) = true := by simp only [decide_eq_true_eq, List.length_singleton]; omega
    simp only [e, decide_true, cond_true, if_true]
    rw [← e, Q1b7 seg x2 (rate : Int) wait x5 s hg hi hk]
    simp only [apSL, Qsc]
    simp only [h2, cond_true]
    exact ih f (oneS seg wait s).1 _ (by simp; omega) (by omega) (Qsd hg.1 hi) (by rw [Qsb]; exact hk)
   ·simp only [e, decide_false, cond_false, if_false]
    rfl
theorem Q15r (k : Nat) (x0 : Int → Int → ByteArray → List Int → Int → List Rg → Int → Int → List Lt → Option R) (seg x2 wait x5 : Int) (rate : Nat) (hr : rate ≤ 100) (hg : 1 ≤ seg ∧ seg ≤ 4096) (y0 y1 : Int) (y2 : ByteArray) (y3 y4 y5 : Int) :
  ∀ (d f : Nat) (s : Sd) (o : List Lt), o.length + d = rate → d < f → SInv s → s.dat.length + 10 < k →
  Q8h k x0 seg x2 (rate : Int) wait x5 y0 y1 y2 y3 y4 y5 f s.st s.id s.nm s.dat s.nx s.hs s.wt s.tr o = apSO x0 (runS seg wait d s o) := by
 intro d
 induction d with
 | zero =>
   intro f s o ho hf hi hk
   obtain ⟨f, rfl⟩ := Q1 hf
   have h1 : decide ((o.length : Int) < (rate : Int)) = false := by simp only [decide_eq_false_iff_not]; omega
   simp only [Q8h, Q104, h1]
   rfl
 | succ d ih =>
   intro f s o ho hf hi hk
   obtain ⟨f, rfl⟩ := Q1 hf
   have h1 : decide ((o.length : Int) < (rate : Int)) = true := by simp only [decide_eq_true_eq]; omega
   simp only [Q8h, Q104, h1, beq_self_eq_true, cond_true, Qh, runS]
   by_cases e : s.st = 1
   ·have hL := LIM112
    have h2 : decide (o.length + ([(oneS seg wait s).2] : List Lt).length ≤ LIM 112) = true := by simp only [decide_eq_true_eq, List.length_singleton]; omega
    simp only [e, decide_true, cond_true, if_true]
    rw [← e, Q1b8 seg x2 (rate : Int) wait x5 s hg hi hk]
    simp only [apLS, Qsc]
    simp only [h2, cond_true]
    exact ih f (oneS seg wait s).1 _ (by simp; omega) (by omega) (Qsd hg.1 hi) (by rw [Qsb]; exact hk)
   ·simp only [e, decide_false, cond_false, if_false]
    rfl
def stopL (s : Sd) : Lt := (6, (s.id, (⟨#[]⟩, (0, (0, (0, ([], ([], (false, ())))))))))
def tickS (seg : Int) (rate : Nat) (wait most : Int) (s : Sd) : Sd × List Lt :=
 if s.st = 2 then (if s.wt - 1 > 0 then ({ s with wt := s.wt - 1 }, []) else if s.tr ≥ most then ({ s with st := 4, wt := s.wt - 1 }, [stopL s]) else ({ s with wt := wait, tr := s.tr + 1 }, [endL s]))
 else runS seg wait rate s []
theorem Q1fv {k : Nat} (seg x2 wait most : Int) (rate : Nat) (s : Sd) (hr : rate ≤ 100) (hg : 1 ≤ seg ∧ seg ≤ 4096) (hi : SInv s) (hw : 0 ≤ s.wt ∧ s.wt ≤ 1000000) (ht : 0 ≤ s.tr ∧ s.tr ≤ 50) (hk : s.dat.length + rate + 20 < k)
  (K : Int → Int → ByteArray → List Int → Int → List Rg → Int → Int → List Lt → Option R) :
  f79 k seg x2 (rate : Int) wait most s.st s.id s.nm s.dat s.nx s.hs s.wt s.tr K = apSO K (tickS seg rate wait most s) := by
 rw [Q103]
 obtain ⟨k, rfl⟩ := Q1 hk
 simp only [f79d, Qy3 (show s.dat.length + 3 < k by omega) hi.len hi.u8, Qh, tickS]
 rw [wi (n := s.wt - 1) (by omega) (by omega), wi (n := s.tr + 1) (by omega) (by omega)]
 by_cases e : s.st = 2
 ·by_cases e1 : s.wt - 1 > 0
  ·simp only [e, e1, decide_true, cond_true, if_true]; simp only [apSO, e]
  ·by_cases e2 : s.tr ≥ most
   ·simp only [e, e1, e2, decide_true, decide_false, cond_true, cond_false, if_true, if_false]; simp only [apSO, stopL]
   ·simp only [e, e1, e2, decide_true, decide_false, cond_true, cond_false, if_true, if_false]; simp only [apSO, endL, e]
 ·simp only [e, decide_false, cond_false, if_false, Qj9]
  exact Q15q k _ seg x2 wait most rate hr hg 0 0 ⟨#[]⟩ 0 0 0 rate k s [] (by simp) (by omega) hi (by omega)
theorem Q1fw {k : Nat} (seg x2 wait most : Int) (rate : Nat) (s : Sd) (hr : rate ≤ 100) (hg : 1 ≤ seg ∧ seg ≤ 4096) (hi : SInv s) (hw : 0 ≤ s.wt ∧ s.wt ≤ 1000000) (ht : 0 ≤ s.tr ∧ s.tr ≤ 50) (hk : s.dat.length + rate + 20 < k)
  (K : Int → Int → ByteArray → List Int → Int → List Rg → Int → Int → List Lt → Option R) :
  f81 k seg x2 (rate : Int) wait most s.st s.id s.nm s.dat s.nx s.hs s.wt s.tr K = apSO K (tickS seg rate wait most s) := by
 rw [Q105]
 obtain ⟨k, rfl⟩ := Q1 hk
 have hL := LIM112
 have y1 : ∀ x : Lt, decide (([x] : List Lt).length ≤ LIM 112) = true := fun x => by simp only [decide_eq_true_eq, List.length_singleton]; omega
 simp only [f81d, Qy5 (show s.dat.length + 3 < k by omega) hi.len hi.u8, Qh, tickS]
 rw [wi (n := s.wt - 1) (by omega) (by omega), wi (n := s.tr + 1) (by omega) (by omega)]
 by_cases e : s.st = 2
 ·by_cases e1 : s.wt - 1 > 0
  ·simp only [e, e1, decide_true, cond_true, if_true]; simp only [apSO, e]
  ·by_cases e2 : s.tr ≥ most
   ·simp only [e, e1, e2, decide_true, decide_false, cond_true, cond_false, if_true, if_false, y1]; simp only [apSO, stopL]
   ·simp only [e, e1, e2, decide_true, decide_false, cond_true, cond_false, if_true, if_false, y1]; simp only [apSO, endL, e]
 ·simp only [e, decide_false, cond_false, if_false, Qa7, Qfq, Qja]
  by_cases e1 : s.st = 1
  ·simp only [e1, decide_true, cond_true]
   rw [← e1]
   exact Q15r k _ seg x2 wait most rate hr hg 0 0 ⟨#[]⟩ 0 0 0 rate k s [] (by simp) (by omega) hi (by omega)
  ·simp only [e1, decide_false, cond_false]
   cases rate with
   | zero => rfl
   | succ r => simp only [runS, e1, if_false]; rfl
theorem Qcv {s : Sd} (h : Q5l s = 0) (hu : U8 s.dat) : SInv s ∧ (0 ≤ s.wt ∧ s.wt ≤ 1000000) ∧ (0 ≤ s.tr ∧ s.tr ≤ 50) := by
 unfold Q5l at h
 by_cases h1 : Qo s.id s.nm s.dat.length = 0
 ·cases h2 : inB s.st 1 4
  ·simp [h1, h2] at h
  ·cases h3 : inB s.nx (-1) s.dat.length
   ·simp [h1, h2, h3] at h
   ·cases h4 : inB s.wt 0 1000000
    ·simp [h1, h2, h3, h4] at h
    ·cases h5 : inB s.tr 0 50
     ·simp [h1, h2, h3, h4, h5] at h
     ·by_cases h6 : chkRgs (cutF s.hs) s.dat.length = 0
      ·obtain ⟨_, q1, q2⟩ := Qiu h6
       have q3 := Qct h1
       obtain ⟨n1, n2⟩ := Qe.1 h3
       refine ⟨⟨by omega, hu, n1, n2, ?_, q2⟩, Qe.1 h4, Qe.1 h5⟩
       have : s.hs.length ≤ (cutF s.hs).length + 1 := by
        unfold cutF
        cases headF s.hs <;> simp <;> omega
       omega
      ·simp [h1, h2, h3, h4, h5, h6] at h
 ·simp [h1] at h
theorem Qrf {k : Nat} (hk : 0 < k) (l : List Int) (K : Bool → Option R) : f51 k l l K = K true := by
 rw [Qz9]
 obtain ⟨k, rfl⟩ := Q1 hk
 simp only [f51d, beq_self_eq_true]
theorem Qrd (k : Nat) (K : Bool → Option R) (x0 : Option R) (l : List Rg) (hl : l.length < 4611686018427387904) : ∀ (d f i : Nat), i + d = l.length → d < f →
  Q87 k K x0 l l (l.length : Int) f (i : Int) = x0
 | d, 0, i, _, h => absurd h (Nat.not_lt_zero _)
 | 0, f + 1, i, hi, _ => by
   have h1 : decide ((i : Int) < (l.length : Int)) = false := by simp only [decide_eq_false_iff_not]; omega
   simp only [Q87, Qz7, h1, cond_false]
 | d + 1, f + 1, i, hi, hf => by
   have h1 : decide ((i : Int) < (l.length : Int)) = true := by simp only [decide_eq_true_eq]; omega
   have h0 : decide ((0 : Int) ≤ (i : Int)) = true := by simp
   have hw : IntKind.i64.wrap ((i : Int) + 1) = ((i + 1 : Nat) : Int) := by rw [wi (by omega) (by omega)]; omega
   simp only [Q87, Qz7, h1, h0, cond_true, Bool.and_self, hw, beq_self_eq_true, Bool.not_true, cond_false]
   exact Qrd k K x0 l hl d f (i + 1) (by omega) (by omega)
theorem Qre {k : Nat} {l : List Rg} (hk : l.length + 1 < k) (hl : l.length < 4611686018427387904) (K : Bool → Option R) : f40 k l l K = K true := by
 rw [Qz8]
 obtain ⟨k, rfl⟩ := Q1 hk
 have : ((l.length : Int) != (l.length : Int)) = false := by rw [Q1a]; simp
 simp only [f40d, Qj0, this, cond_false]
 exact Qrd k K _ l hl l.length k 0 (by omega) (by omega)
theorem Qrb {k : Nat} (s : Sd) (hk : s.hs.length + 3 < k) (hl : s.hs.length < 4611686018427387904) (K : Bool → Option R) :
  f29 k s.st s.id s.nm s.dat s.nx s.hs s.wt s.tr s.st s.id s.nm s.dat s.nx s.hs s.wt s.tr K = K true := by
 rw [Qz5]
 obtain ⟨k, rfl⟩ := Q1 hk
 simp only [f29d, Qrf (show 0 < k by omega), Qre (show s.hs.length + 1 < k by omega) hl, beq_self_eq_true, cond_true]
end Go.Proofs.Ytlcklflbhhnnhaa.PM
/- Plain laws of receivers: what lacks, what is judged. -/
set_option linter.unusedSimpArgs false
set_option linter.unusedVariables false
namespace Go.Proofs.Ytlcklflbhhnnhaa.PM
open Go Go.Proofs.Ytlcklflbhhnnhaa.Bt
variable {R : Type}
def preF : Int → List Rg → List Rg
 | _, [] => []
 | a, x :: l => (if x.1 > a then [(a, (x.1, ()))] else []) ++ preF x.2.1 l
def lastT : Int → List Rg → Int
 | a, [] => a
 | _, x :: l => lastT x.2.1 l
def holesF (l : List Rg) (e : Int) : List Rg := preF 0 l ++ if lastT 0 l < e then [(lastT 0 l, (e, ()))] else []
theorem Q9e : ∀ (a : Int) (l : List Rg), (preF a l).length ≤ l.length
 | _, [] => by simp [preF]
 | a, x :: l => by
   have := Q9e x.2.1 l
   simp only [preF, List.length_append, List.length_cons]
   split <;> simp <;> omega
theorem Q56 (l : List Rg) (e : Int) : (holesF l e).length ≤ l.length + 1 := by
 have := Q9e 0 l
 unfold holesF
 split <;> simp <;> omega
theorem Q15t (k : Nat) (x0 : Int → List Rg → Option R) (e : Int) (l : List Rg) (hl : l.length ≤ 1000000) : ∀ (d f i : Nat) (a : Int) (o : List Rg), i + d = l.length → d < f → o.length ≤ i →
  Q8i k x0 e l (l.length : Int) f a (i : Int) o = x0 (lastT a (l.drop i)) (o ++ preF a (l.drop i)) := by
 intro d
 induction d with
 | zero =>
   intro f i a o hi hf ho
   obtain ⟨f, rfl⟩ := Q1 hf
   have h1 : decide ((i : Int) < (l.length : Int)) = false := by simp only [decide_eq_false_iff_not]; omega
   simp only [Q8i, Q10a, h1, cond_false]
   rw [List.drop_of_length_le (by omega)]
   simp [lastT, preF]
 | succ d ih =>
   intro f i a o hi hf ho
   obtain ⟨f, rfl⟩ := Q1 hf
   have h1 : decide ((i : Int) < (l.length : Int)) = true := by simp only [decide_eq_true_eq]; omega
   have h0 : decide ((0 : Int) ≤ (i : Int)) = true := by simp
   have hw : IntKind.i64.wrap ((i : Int) + 1) = ((i + 1 : Nat) : Int) := by rw [wi (by omega) (by omega)]; omega
   have hli : i < l.length := by omega
   have hg : l.getD (Int.toNat (i : Int)) (0, (0, ())) = l[i] := Qd hli
   simp only [Q8i, Q10a, hg, h1, h0, cond_true, Bool.and_self, hw, Qa9, Qft]
   rw [List.drop_eq_getElem_cons hli]
   simp only [lastT, preF]
   have hL : decide (o.length + ([((a, ((l[i]).1, ())) : Rg)]).length ≤ LIM 16) = true := by rw [LIM16]; simp only [decide_eq_true_eq, List.length_singleton]; omega
   by_cases q : (l[i]).1 > a
   ·simp only [q, decide_true, cond_true, hL, if_true]
    rw [ih f (i + 1) _ _ (by omega) (by omega) (by simp; omega), List.append_assoc]
   ·simp only [q, decide_false, cond_false, if_false, List.nil_append]
    exact ih f (i + 1) _ _ (by omega) (by omega) (by omega)
theorem Q15u (k : Nat) (x0 : Int → List Rg → Option R) (e : Int) (l : List Rg) (hl : l.length ≤ 1000000) : ∀ (d f i : Nat) (a : Int) (o : List Rg), i + d = l.length → d < f → o.length ≤ i →
  Q8j k x0 l e f a (i : Int) o = x0 (lastT a (l.drop i)) (o ++ preF a (l.drop i)) := by
 intro d
 induction d with
 | zero =>
   intro f i a o hi hf ho
   obtain ⟨f, rfl⟩ := Q1 hf
   have h1 : decide ((i : Int) < (l.length : Int)) = false := by simp only [decide_eq_false_iff_not]; omega
   simp only [Q8j, Q10c, h1, cond_false]
   rw [List.drop_of_length_le (by omega)]
   simp [lastT, preF]
 | succ d ih =>
   intro f i a o hi hf ho
   obtain ⟨f, rfl⟩ := Q1 hf
   have h1 : decide ((i : Int) < (l.length : Int)) = true := by simp only [decide_eq_true_eq]; omega
   have h0 : decide ((0 : Int) ≤ (i : Int)) = true := by simp
   have hw : IntKind.i64.wrap ((i : Int) + 1) = ((i + 1 : Nat) : Int) := by rw [wi (by omega) (by omega)]; omega
   have hli : i < l.length := by omega
   have hg : l.getD (Int.toNat (i : Int)) (0, (0, ())) = l[i] := Qd hli
   simp only [Q8j, Q10c, hg, h1, h0, cond_true, Bool.and_self, hw, Qab, Qfv]
   rw [List.drop_eq_getElem_cons hli]
   simp only [lastT, preF]
   have hL : decide (o.length + ([((a, ((l[i]).1, ())) : Rg)]).length ≤ LIM 16) = true := by rw [LIM16]; simp only [decide_eq_true_eq, List.length_singleton]; omega
   by_cases q : (l[i]).1 > a
   ·simp only [q, decide_true, cond_true, hL, if_true]
    rw [ih f (i + 1) _ _ (by omega) (by omega) (by simp; omega), List.append_assoc]
   ·simp only [q, decide_false, cond_false, if_false, List.nil_append]
    exact ih f (i + 1) _ _ (by omega) (by omega) (by omega)
theorem Q199 {k : Nat} {l : List Rg} (hk : l.length + 2 < k) (hl : l.length ≤ 1000000) (e : Int) (K : List Rg → Option R) : f87 k l e K = K (holesF l e) := by
 rw [Q10b]
 obtain ⟨k, rfl⟩ := Q1 hk
 simp only [f87d, Qjc]
 refine (Q15t k _ e l hl l.length k 0 0 [] (by omega) (by omega) (by simp)).trans ?_
 have := Q9e 0 l
 have hL : decide ((preF 0 l).length + ([((lastT 0 l, (e, ())) : Rg)]).length ≤ LIM 16) = true := by rw [LIM16]; simp only [decide_eq_true_eq, List.length_singleton]; omega
 simp only [Qaa, Qfu, List.drop_zero, List.nil_append, holesF, hL, cond_true]
 by_cases q : lastT 0 l < e <;> simp [q]
theorem Q1fz {k : Nat} {l : List Rg} (hk : l.length + 2 < k) (hl : l.length ≤ 1000000) (e : Int) (K : List Rg → Option R) : f88 k l e K = K (holesF l e) := by
 rw [Q10d]
 obtain ⟨k, rfl⟩ := Q1 hk
 simp only [f88d, Qjd]
 refine (Q15u k _ e l hl l.length k 0 0 [] (by omega) (by omega) (by simp)).trans ?_
 have := Q9e 0 l
 have hL : decide ((preF 0 l).length + ([((lastT 0 l, (e, ())) : Rg)]).length ≤ LIM 16) = true := by rw [LIM16]; simp only [decide_eq_true_eq, List.length_singleton]; omega
 simp only [Qac, Qfw, List.drop_zero, List.nil_append, holesF, hL, cond_true]
 by_cases q : lastT 0 l < e <;> simp [q]
def Srt (lim : Int) : Int → List Rg → Prop
 | _, [] => True
 | a, x :: l => a ≤ x.1 ∧ x.1 < x.2.1 ∧ x.2.1 ≤ lim ∧ Srt lim x.2.1 l
theorem Qgy {lim : Int} : ∀ {p : Option Int} {l : List Rg}, rgF lim p l = 0 → Srt lim (p.getD 0) l
 | _, [], _ => trivial
 | p, y :: l, h => by
   simp only [rgF] at h
   by_cases q1 : y.1 < 0
   ·simp [q1] at h
   by_cases q2 : y.2.1 > lim
   ·simp [q1, q2] at h
   by_cases q3 : y.2.1 ≤ y.1
   ·simp [q1, q2, q3] at h
   cases p with
   | none => exact ⟨by show (0 : Int) ≤ y.1; omega, by omega, by omega, Qgy (p := some y.2.1) (by simpa [q1, q2, q3] using h)⟩
   | some e =>
     by_cases q4 : y.1 ≤ e
     ·simp [q1, q2, q3, q4] at h
     ·exact ⟨by show e ≤ y.1; omega, by omega, by omega, Qgy (p := some y.2.1) (by simpa [q1, q2, q3, q4] using h)⟩
theorem Qn {lim : Int} : ∀ {a : Int} {l : List Rg}, Srt lim a l → a ≤ lastT a l ∧ (a ≤ lim → lastT a l ≤ lim)
 | a, [], _ => ⟨Int.le_refl _, id⟩
 | a, x :: l, ⟨h1, h2, h3, h4⟩ => by
   have := Qn h4
   simp only [lastT]
   exact ⟨by omega, fun _ => this.2 h3⟩
theorem Q13c {lim : Int} : ∀ {a : Int} {l : List Rg}, Srt lim a l → ∀ x ∈ l, a ≤ x.1
 | _, [], _, x, hx => by cases hx
 | a, y :: l, ⟨h1, h2, h3, h4⟩, x, hx => by
   rcases List.mem_cons.1 hx with rfl | hx
   ·exact h1
   ·have := Q13c h4 x hx; omega
def inR (l : List Rg) (j : Int) : Prop := ∃ x ∈ l, x.1 ≤ j ∧ j < x.2.1
theorem Qsh {lim : Int} : ∀ {a : Int} {l : List Rg}, Srt lim a l → ∀ j, inR (preF a l) j ↔ (a ≤ j ∧ j < lastT a l ∧ ¬ inR l j)
 | a, [], _, j => by
   simp only [preF, lastT, inR]
   constructor
   ·rintro ⟨x, hx, _⟩; cases hx
   ·rintro ⟨h1, h2, _⟩; omega
 | a, x :: l, ⟨h1, h2, h3, h4⟩, j => by
   have ih := Qsh h4 j
   have hb := (Qn h4).1
   have hlow := Q13c h4
   simp only [preF, lastT]
   constructor
   ·rintro ⟨y, hy, hj⟩
    rcases List.mem_append.1 hy with hy | hy
    ·split at hy
     ·rw [List.mem_singleton] at hy
      subst hy
      have hj1 : a ≤ j := hj.1
      have hj2 : j < x.1 := hj.2
      refine ⟨hj1, by omega, ?_⟩
      rintro ⟨z, hz, hz1, hz2⟩
      rcases List.mem_cons.1 hz with rfl | hz
      ·omega
      ·have := hlow z hz; omega
     ·cases hy
    ·obtain ⟨g1, g2, g3⟩ := ih.1 ⟨y, hy, hj⟩
     refine ⟨by omega, g2, ?_⟩
     rintro ⟨z, hz, hz1, hz2⟩
     rcases List.mem_cons.1 hz with rfl | hz
     ·omega
     ·exact g3 ⟨z, hz, hz1, hz2⟩
   ·rintro ⟨g1, g2, g3⟩
    by_cases q : j < x.1
    ·refine ⟨(a, (x.1, ())), List.mem_append.2 (Or.inl ?_), g1, q⟩
     rw [if_pos (show x.1 > a by omega)]; simp
    ·have q2 : x.2.1 ≤ j := by
      by_cases q2 : x.2.1 ≤ j
      ·exact q2
      ·exact absurd ⟨x, by simp, by omega, by omega⟩ g3
     obtain ⟨y, hy, hj⟩ := ih.2 ⟨q2, g2, fun ⟨z, hz, hz'⟩ => g3 ⟨z, by simp [hz], hz'⟩⟩
     exact ⟨y, List.mem_append.2 (Or.inr hy), hj⟩
theorem Q12q {lim : Int} : ∀ {a : Int} {l : List Rg}, Srt lim a l → ∀ h ∈ preF a l, a ≤ h.1 ∧ h.1 < h.2.1 ∧ h.2.1 ≤ lastT a l
 | a, [], _, h, hh => by cases hh
 | a, x :: l, ⟨h1, h2, h3, h4⟩, h, hh => by
   have hb := (Qn h4).1
   simp only [preF] at hh
   simp only [lastT]
   rcases List.mem_append.1 hh with hh | hh
   ·split at hh
    ·rename_i q
     rw [List.mem_singleton] at hh
     subst hh
     exact ⟨Int.le_refl _, q, by show x.1 ≤ _; omega⟩
    ·cases hh
   ·have := Q12q h4 h hh
    omega
def insB (l : List Rg) (j : Int) : Bool := l.any fun x => decide (x.1 ≤ j) && decide (j < x.2.1)
theorem Qgk {l : List Rg} {j : Int} : insB l j = true ↔ inR l j := by simp [insB, inR]
def badF (hv : List Rg) : List Int → Nat → Bool
 | [], _ => false
 | b :: l, i => (decide (b ≠ 0) && !insB hv i) || badF hv l (i + 1)
theorem Qen {hv : List Rg} : ∀ {l : List Int} {i : Nat}, badF hv l i = true ↔ ∃ j, ∃ h : j < l.length, l[j] ≠ 0 ∧ ¬ inR hv ((i + j : Nat) : Int)
 | [], i => by simp [badF]
 | b :: l, i => by
   have hI : (!insB hv (i : Int)) = true ↔ ¬ inR hv (i : Int) := by rw [← Qgk]; simp
   simp only [badF, Bool.or_eq_true, Bool.and_eq_true, decide_eq_true_eq, Qen (l := l), hI]
   constructor
   ·rintro (h | ⟨j, hj, h1, h2⟩)
    ·exact ⟨0, by simp, by simpa using h⟩
    ·exact ⟨j + 1, by simp; omega, by simpa using h1, by rwa [show i + (j + 1) = i + 1 + j by omega]⟩
   ·rintro ⟨j, hj, h1, h2⟩
    cases j with
    | zero => exact Or.inl ⟨by simpa using h1, by simpa using h2⟩
    | succ j => exact Or.inr ⟨j, by simp at hj; omega, by simpa using h1, by rwa [show i + 1 + j = i + (j + 1) by omega]⟩
theorem Qrp (k : Nat) (K : Bool → Option R) (l : List Rg) (j : Int) (hl : l.length < 4611686018427387904) : ∀ (d f i : Nat), i + d = l.length → d < f →
  Q8l k K (K false) l j f (i : Int) = K (insB (l.drop i) j)
 | d, 0, i, _, h => absurd h (Nat.not_lt_zero _)
 | 0, f + 1, i, hi, _ => by
   have h1 : decide ((i : Int) < (l.length : Int)) = false := by simp only [decide_eq_false_iff_not]; omega
   simp only [Q8l, Q10l, h1, cond_false]
   rw [List.drop_of_length_le (by omega)]
   rfl
 | d + 1, f + 1, i, hi, hf => by
   have h1 : decide ((i : Int) < (l.length : Int)) = true := by simp only [decide_eq_true_eq]; omega
   have h0 : decide ((0 : Int) ≤ (i : Int)) = true := by simp
   have hw : IntKind.i64.wrap ((i : Int) + 1) = ((i + 1 : Nat) : Int) := by rw [wi (by omega) (by omega)]; omega
   have hli : i < l.length := by omega
   have hg : l.getD (Int.toNat (i : Int)) (0, (0, ())) = l[i] := Qd hli
   simp only [Q8l, Q10l, hg]
   simp only [h1, h0, cond_true, Bool.and_self, hw, Qrp k K l j hl d f (i + 1) (by omega) (by omega)]
   rw [List.drop_eq_getElem_cons hli]
   have hc : insB (l[i] :: l.drop (i + 1)) j = ((decide ((l[i]).1 ≤ j) && decide (j < (l[i]).2.1)) || insB (l.drop (i + 1)) j) := rfl
   rw [hc]
   cases decide ((l[i]).1 ≤ j) <;> cases decide (j < (l[i]).2.1) <;> rfl
theorem Q1g4 {k : Nat} {l : List Rg} (hk : l.length + 1 < k) (hl : l.length < 4611686018427387904) (j : Int) (K : Bool → Option R) : f97 k l j K = K (insB l j) := by
 rw [Q10m]
 obtain ⟨k, rfl⟩ := Q1 hk
 simp only [f97d, Qjh]
 exact (Qrp k K l j hl l.length k 0 (by omega) (by omega)).trans (by simp)
end Go.Proofs.Ytlcklflbhhnnhaa.PM
/- Plain laws of receivers: checks and ticks. -/
set_option linter.unusedSimpArgs false
set_option linter.unusedVariables false
namespace Go.Proofs.Ytlcklflbhhnnhaa.PM
open Go Go.Proofs.Ytlcklflbhhnnhaa.Bt
variable {R : Type}
structure Rv where
 st : Int
 id : Int
 nm : ByteArray
 dat : List Int
 hv : List Rg
 sz : Int
 sum : Int
 wt : Int
 tr : Int
def zR : Rv := ⟨0, 0, ⟨#[]⟩, [], [], 0, 0, 0, 0⟩
theorem Q7f : ∀ (a : Int) (l : List Rg), l ≠ [] → lastT a l = (l.getD (l.length - 1) (0, (0, ()))).2.1
 | a, [], h => absurd rfl h
 | a, [x], _ => rfl
 | a, x :: y :: l, _ => by
   have := Q7f x.2.1 (y :: l) (by simp)
   simp only [lastT] at this ⊢
   rw [this]
   simp
def stB (q2 w0 s1 q0 e l0 t0 h0 : Bool) : Bool := (q2 && (w0 || s1)) || (!q2 && !w0) || (q0 && !(e && l0 && s1 && t0)) || (q2 && !e && h0)
def formV (r : Rv) : Int := if (r.dat.length : Int) ≠ lastT 0 r.hv then 3 else if badF r.hv r.dat 0 = true then 3 else if r.sz = -1 ∧ (r.sum ≠ 0 ∨ emp r.nm = false) then 3 else 0
noncomputable def Q9j (r : Rv) : Int :=
 if inB r.id 0 65535 = false then 1 else if inB r.st 0 4 = false then 4 else if emp r.nm = false ∧ nameOk r.nm = false then 5
 else if inB r.sz (-1) 100000 = false then 1 else if inB r.sum 0 4294967295 = false then 1 else if inB r.wt 0 1000000 = false then 1 else if inB r.tr 0 50 = false then 1
 else if chkRgs r.hv (if r.sz = -1 then 100000 else r.sz) ≠ 0 then chkRgs r.hv (if r.sz = -1 then 100000 else r.sz)
 else if formV r ≠ 0 then formV r
 else if stB (decide (r.st = 2)) (decide (r.wt = 0)) (decide (r.sz = -1)) (decide (r.st = 0)) (emp r.nm) (decide (r.dat.length = 0)) (decide (r.tr = 0)) (decide ((holesF r.hv r.sz).length = 0)) = true then 11 else 0
theorem Qsy {l : List Rg} {lim : Int} (h : chkRgs l lim = 0) : Srt lim 0 l := by
 unfold chkRgs at h
 by_cases h1 : inB lim 0 100000 = false
 ·simp [h1] at h
 ·by_cases h2 : 2000 < l.length
  ·simp [h1, h2] at h
  ·simp only [h1, h2, if_false] at h
   exact Qgy (p := none) h
theorem Q19b {k : Nat} (r : Rv) (hl : r.hv.length ≤ 1000000) (hk : r.hv.length + 4 < k) (K : List Rg → Option R) : f95 k r.st r.id r.nm r.dat r.hv r.sz r.sum r.wt r.tr K = K (holesF r.hv r.sz) := by
 rw [Q10k]
 obtain ⟨k, rfl⟩ := Q1 hk
 simp only [f95d, Q199 (show r.hv.length + 2 < k by omega) hl]
theorem Qiz {k : Nat} {l : List Rg} (hk : 1 < k) (hl : l.length ≤ 1000000000) (K : List Rg → Option R) : f118 k true l K = K ((-1, (0, ())) :: l) := by
 rw [Qfb]
 obtain ⟨k, rfl⟩ := Q1 hk
 obtain ⟨k, rfl⟩ := Q1 (show 0 < k by omega)
 have h1 : decide (([(-1, (0, ()))] : List Rg).length ≤ LIM 16) = true := by rw [LIM16]; simp only [decide_eq_true_eq, List.length_singleton]; omega
 have h2 : decide (([(-1, (0, ()))] : List Rg).length + l.length ≤ LIM 16) = true := by rw [LIM16]; simp only [decide_eq_true_eq, List.length_singleton]; omega
 simp only [f118d, Q49, Q6d, cond_true, Qf6, f106d, h1, h2, List.cons_append, List.nil_append]
def lackF (r : Rv) : List Rg := bif emp r.nm then (-1, (0, ())) :: holesF r.hv r.sz else holesF r.hv r.sz
theorem Qmf {k : Nat} (r : Rv) (hl : r.hv.length ≤ 1000000) (hk : r.hv.length + 4 < k) (hs : -1 ≤ r.sz) (K : Bool → List Rg → Option R) :
  f113 k r.st r.id r.nm r.dat r.hv r.sz r.sum r.wt r.tr K = bif decide (r.sz = -1) then K false [] else K true (lackF r) := by
 rw [Qqs]
 obtain ⟨k, rfl⟩ := Q1 hk
 have es : (r.nm.toList == (⟨#[]⟩ : ByteArray).toList) = emp r.nm := rfl
 have hd : decide (r.sz < 0) = decide (r.sz = -1) := by rw [Bool.eq_iff_iff]; simp only [decide_eq_true_eq]; omega
 have hh := Q56 r.hv r.sz
 simp only [f113d, Q1fz (show r.hv.length + 2 < k by omega) hl, es, hd, lackF]
 cases emp r.nm
 ·rw [Qmh (show 0 < k by omega) (by omega)]; rfl
 ·rw [Qiz (show 1 < k by omega) (by omega)]; rfl
theorem Q1g5 {k : Nat} (r : Rv) (hl : r.hv.length ≤ 1000000) (hk : r.hv.length + 6 < k) (hs : -1 ≤ r.sz) (K : Bool → Option R) :
  f98 k r.st r.id r.nm r.dat r.hv r.sz r.sum r.wt r.tr K = K (!decide (r.sz = -1) && !emp r.nm && decide ((holesF r.hv r.sz).length = 0)) := by
 rw [Q10n]
 obtain ⟨k, rfl⟩ := Q1 hk
 have hlen : decide ((lackF r).length = 0) = (!emp r.nm && decide ((holesF r.hv r.sz).length = 0)) := by
  unfold lackF
  by_cases he : emp r.nm = true
  ·rw [he]; simp
  ·rw [Bool.not_eq_true] at he; rw [he]; simp
 simp only [f98d, Qmf r hl (show r.hv.length + 4 < k by omega) hs, Qh, leneq, hlen]
 cases decide (r.sz = -1) <;> cases emp r.nm <;> simp
end Go.Proofs.Ytlcklflbhhnnhaa.PM
/- Plain laws of receivers: ticks. -/
set_option linter.unusedSimpArgs false
set_option linter.unusedVariables false
namespace Go.Proofs.Ytlcklflbhhnnhaa.PM
open Go Go.Proofs.Ytlcklflbhhnnhaa.Bt
variable {R : Type}
theorem Q1bh {k : Nat} (hk : 0 < k) {n : Int} (h0 : 0 ≤ n) (h1 : n ≤ 1000000000) (K : List Rg → Option R) : f132 k n K = K [] := by
 rw [Qr9]
 obtain ⟨k, rfl⟩ := Q1 hk
 have hd : decide (n < 0) = false := by simp only [decide_eq_false_iff_not]; omega
 simp only [f132d, Q85, Qa3, hd, cond_false, Q86, Qa4, Int.sub_zero]
 rw [wi (by omega) (by omega)]
 by_cases h : n > 0
 ·have h2 : decide ((List.replicate n.toNat ((0, (0, ())) : Rg)).length ≤ LIM 16) = true := by rw [LIM16]; simp only [decide_eq_true_eq, List.length_replicate]; omega
  have h3 : decide (0 ≤ n) = true := by simp only [decide_eq_true_eq]; omega
  have h4 : decide (0 ≤ ((List.replicate n.toNat ((0, (0, ())) : Rg)).length : Int)) = true := by simp only [decide_eq_true_eq]; omega
  simp only [h, h2, h3, h4, decide_true, cond_true, Bool.and_self, List.take_zero]
 ·simp only [h, decide_false, cond_false]
theorem Qyb {k : Nat} (hk : 5 < k) (a b : List Rg) (ha : a.length ≤ 100000) (hb : b.length ≤ 100000) (K : List Rg → Option R) : f114 k [a, b] K = K (a ++ b) := by
 rw [Qqt]
 obtain ⟨k, rfl⟩ := Q1 hk
 obtain ⟨k, rfl⟩ := Q1 (show 2 < k by omega)
 obtain ⟨k, rfl⟩ := Q1 (show 1 < k by omega)
 obtain ⟨k, rfl⟩ := Q1 (show 0 < k by omega)
 have w0 : IntKind.i64.wrap (0 + (a.length : Int)) = (a.length : Int) := by rw [wi (by omega) (by omega)]; omega
 have w1 : IntKind.i64.wrap ((a.length : Int) + (b.length : Int)) = (a.length : Int) + (b.length : Int) := wi (by omega) (by omega)
 have n0 : decide ((a.length : Int) < 0) = false := by simp only [decide_eq_false_iff_not]; omega
 have n1 : decide ((a.length : Int) + (b.length : Int) < 0) = false := by simp only [decide_eq_false_iff_not]; omega
 have i1 : IntKind.i64.wrap (0 + 1) = 1 := by decide
 have i2 : IntKind.i64.wrap (1 + 1) = 2 := by decide
 have l1 : decide (([] : List Rg).length + a.length ≤ LIM 16) = true := by rw [LIM16]; simp only [decide_eq_true_eq, List.length_nil]; omega
 have l2 : decide (a.length + b.length ≤ LIM 16) = true := by rw [LIM16]; simp only [decide_eq_true_eq]; omega
 simp only [f114d, Qd5, Qd6, Q7s, Q9s, Q79, Qy8, Q7a, Qya, List.length_cons, List.length_nil, i1, i2]
 simp only [show decide ((0 : Int) < ((0 + 1 + 1 : Nat) : Int)) = true from by decide, show decide ((1 : Int) < ((0 + 1 + 1 : Nat) : Int)) = true from by decide, show decide ((2 : Int) < ((0 + 1 + 1 : Nat) : Int)) = false from by decide,
  show decide ((0 : Int) ≤ 0) = true from by decide, show decide ((0 : Int) ≤ 1) = true from by decide, Bool.and_self, cond_true, cond_false, Int.toNat_zero, Int.toNat_one, List.getD_cons_zero, List.getD_cons_succ, w0, n0, w1, n1]
 rw [Q1bh (show 0 < k + 1 + 1 + 1 by omega) (by omega) (by omega)]
 simp only [List.nil_append, l1, l2, cond_true, List.length_nil]
 simp only [List.length_nil] at l1
 simp only [l1, cond_true]
theorem Qyx {k : Nat} (hk : 8 < k) (l : List Rg) (hl : l.length ≤ 100000) (b : Bool) (K : List Rg → Option R) : f131 k l b K = K (bif b then (-1, (0, ())) :: l else l) := by
 rw [Qr8]
 obtain ⟨k, rfl⟩ := Q1 hk
 cases b
 ·rfl
 ·simp only [f131d, cond_true, Q90]
  rw [show f104d (R := R) k = fun K => f104d k K from rfl]
  obtain ⟨k, rfl⟩ := Q1 (show 0 < k by omega)
  simp only [f104d]
  rw [Qyb (show 5 < k + 1 by omega) _ _ (by simp) hl]
  rfl
theorem Q11s {lim : Int} {l : List Rg} (hs : Srt lim 0 l) (e : Int) : headF (holesF l e) = false := by
 have hb := (Qn hs).1
 have : ∀ x ∈ holesF l e, 0 ≤ x.1 := by
  intro x hx
  unfold holesF at hx
  rcases List.mem_append.1 hx with hx | hx
  ·exact (Q12q hs x hx).1
  ·split at hx
   ·rw [List.mem_singleton] at hx; subst hx; exact hb
   ·cases hx
 cases h : holesF l e with
 | nil => rfl
 | cons x r =>
   rw [h] at this
   have := this x (by simp)
   have h1 : ¬ x.1 = -1 := by omega
   simp [headF, h1]
theorem Q9l {lim : Int} (r : Rv) (hs : Srt lim 0 r.hv) : cutF (lackF r) = holesF r.hv r.sz := by
 have h := Q11s hs r.sz
 unfold lackF
 rcases Bool.eq_false_or_eq_true (emp r.nm) with he | he
 ·rw [he]; simp [cutF, headF]
 ·rw [he]; simp [cutF, h]
def holeL (r : Rv) : Lt := (4, (r.id, (⟨#[]⟩, (0, (0, (0, ([], (lackF r, (false, ())))))))))
def stopR (r : Rv) : Lt := (6, (r.id, (⟨#[]⟩, (0, (0, (0, ([], ([], (false, ())))))))))
def tickR (wait most : Int) (r : Rv) : (Rv × List Lt) × Int :=
 if r.st ≠ 2 then ((r, []), 0) else if r.wt - 1 > 0 then (({ r with wt := r.wt - 1 }, []), 0)
 else if r.tr ≥ most then (({ r with st := 4, wt := r.wt - 1 }, [stopR r]), 0)
 else if 2000 < (holesF r.hv r.sz).length then ((zR, []), 2) else (({ r with wt := wait, tr := r.tr + 1 }, [holeL r]), 0)
def apRF (K : Int → Int → ByteArray → List Int → List Rg → Int → Int → Int → Int → Int → List Lt → Option R) (x : (Rv × List Lt) × Int) : Option R :=
 K x.1.1.st x.1.1.id x.1.1.nm x.1.1.dat x.1.1.hv x.1.1.sz x.1.1.sum x.1.1.wt x.1.1.tr x.2 x.1.2
structure RInv (r : Rv) : Prop where
 hl : r.hv.length ≤ 2000
 dl : (r.dat.length : Int) ≤ 100000
 wt : 0 ≤ r.wt ∧ r.wt ≤ 1000000
 tr : 0 ≤ r.tr ∧ r.tr ≤ 50
 sz : -1 ≤ r.sz
 asked : r.st = 2 → r.sz ≠ -1
 srt : ∃ lim, Srt lim 0 r.hv
theorem Qcu {r : Rv} (h : Q9j r = 0) : RInv r := by
 unfold Q9j at h
 by_cases h1 : inB r.id 0 65535 = false
 ·simp [h1] at h
 by_cases h2 : inB r.st 0 4 = false
 ·simp [h1, h2] at h
 by_cases h3 : emp r.nm = false ∧ nameOk r.nm = false
 ·simp [h1, h2, h3] at h
 by_cases h4 : inB r.sz (-1) 100000 = false
 ·simp [h1, h2, h3, h4] at h
 by_cases h5 : inB r.sum 0 4294967295 = false
 ·simp [h1, h2, h3, h4, h5] at h
 by_cases h6 : inB r.wt 0 1000000 = false
 ·simp [h1, h2, h3, h4, h5, h6] at h
 by_cases h7 : inB r.tr 0 50 = false
 ·simp [h1, h2, h3, h4, h5, h6, h7] at h
 simp only [h1, h2, h3, h4, h5, h6, h7, if_false] at h
 by_cases h8 : chkRgs r.hv (if r.sz = -1 then 100000 else r.sz) = 0
 ·simp only [h8, ne_eq, not_true_eq_false, if_false] at h
  by_cases h9 : formV r = 0
  ·simp only [h9, ne_eq, not_true_eq_false, if_false] at h
   obtain ⟨c1, c2, c3⟩ := Qiu h8
   have hs := Qsy h8
   have hdl : (r.dat.length : Int) = lastT 0 r.hv := by
    unfold formV at h9
    by_cases q : (r.dat.length : Int) = lastT 0 r.hv
    ·exact q
    ·simp [q] at h9
   have := (Qn hs).2 c1.1
   refine ⟨c2, by omega, Qe.1 (by simpa using h6), Qe.1 (by simpa using h7), (Qe.1 (show inB r.sz (-1) 100000 = true by simpa using h4)).1, ?_, ⟨_, hs⟩⟩
   intro e1 e2
   simp [e1, e2, stB] at h
  ·simp [h9] at h
 ·simp [h8] at h
theorem Qy6 {k : Nat} (r : Rv) (hl : r.hv.length ≤ 2000) (hk : r.hv.length + 20 < k) (K : List Rg → Int → Option R) :
  f112 k r.st r.id r.nm r.dat r.hv r.sz r.sum r.wt r.tr K = if 2000 < (holesF r.hv r.sz).length then K [] 2 else K (lackF r) 0 := by
 rw [Qqr]
 obtain ⟨k, rfl⟩ := Q1 hk
 have hh := Q56 r.hv r.sz
 have es : (r.nm.toList == (⟨#[]⟩ : ByteArray).toList) = emp r.nm := rfl
 have hd : decide (((holesF r.hv r.sz).length : Int) > 2000) = decide (2000 < (holesF r.hv r.sz).length) := by rw [Bool.eq_iff_iff]; simp only [decide_eq_true_eq]; omega
 simp only [f112d, Q19b r (show r.hv.length ≤ 1000000 by omega) (show r.hv.length + 4 < k by omega), hd, es, Qyx (show 8 < k by omega) (holesF r.hv r.sz) (by omega), lackF]
 by_cases h : 2000 < (holesF r.hv r.sz).length <;> simp [h]
theorem Q1fx {k : Nat} (a b c wait most : Int) (r : Rv) (hi : RInv r) (hk : 2100 < k) (K : Int → Int → ByteArray → List Int → List Rg → Int → Int → Int → Int → Int → List Lt → Option R) :
  f82 k a b c wait most r.st r.id r.nm r.dat r.hv r.sz r.sum r.wt r.tr K = apRF K (tickR wait most r) := by
 rw [Q106]
 obtain ⟨k, rfl⟩ := Q1 hk
 have hl := hi.hl
 obtain ⟨w0, w1⟩ := hi.wt
 obtain ⟨t0, t1⟩ := hi.tr
 simp only [f82d, Q1a, tickR]
 rw [wi (n := r.wt - 1) (by omega) (by omega), wi (n := r.tr + 1) (by omega) (by omega)]
 by_cases e : r.st = 2
 ·by_cases e1 : r.wt - 1 > 0
  ·simp only [e, e1, decide_true, Bool.not_true, cond_false, cond_true, ne_eq, not_true_eq_false, if_true, if_false]; simp only [apRF, e]
  ·by_cases e2 : r.tr ≥ most
   ·simp only [e, e1, e2, decide_true, decide_false, Bool.not_true, cond_false, cond_true, ne_eq, not_true_eq_false, if_true, if_false]; simp only [apRF, stopR]
   ·simp only [e, e1, e2, decide_true, decide_false, Bool.not_true, cond_false, ne_eq, not_true_eq_false, if_false]
    have h112 := Qy6 (R := R) (k := k) ⟨2, r.id, r.nm, r.dat, r.hv, r.sz, r.sum, r.wt - 1, r.tr⟩ hl (by show r.hv.length + 20 < k; omega)
    simp only at h112
    rw [h112]
    have hq : lackF ⟨2, r.id, r.nm, r.dat, r.hv, r.sz, r.sum, r.wt - 1, r.tr⟩ = lackF r := rfl
    by_cases e3 : 2000 < (holesF r.hv r.sz).length
    ·simp [e3, apRF, zR]
    ·simp [e3, apRF, holeL, hq, e]
 ·simp [e, apRF]
theorem Q1fy {k : Nat} (a b c wait most : Int) (r : Rv) (hi : RInv r) (hk : 2100 < k) (K : Int → Int → ByteArray → List Int → List Rg → Int → Int → Int → Int → Int → List Lt → Option R) :
  f85 k a b c wait most r.st r.id r.nm r.dat r.hv r.sz r.sum r.wt r.tr K = apRF K (tickR wait most r) := by
 rw [Q107]
 obtain ⟨k, rfl⟩ := Q1 hk
 have hl := hi.hl
 obtain ⟨w0, w1⟩ := hi.wt
 obtain ⟨t0, t1⟩ := hi.tr
 obtain ⟨lim, hs⟩ := hi.srt
 simp only [f85d, Q1a, tickR]
 rw [wi (n := r.wt - 1) (by omega) (by omega), wi (n := r.tr + 1) (by omega) (by omega)]
 by_cases e : r.st = 2
 ·have hsz := hi.asked e
  by_cases e1 : r.wt - 1 > 0
  ·simp only [e, e1, decide_true, Bool.not_true, cond_false, cond_true, ne_eq, not_true_eq_false, if_true, if_false]; simp only [apRF, e]
  ·by_cases e2 : r.tr ≥ most
   ·simp only [e, e1, e2, decide_true, decide_false, Bool.not_true, cond_false, cond_true, ne_eq, not_true_eq_false, if_true, if_false]; simp only [apRF, stopR]
   ·simp only [e, e1, e2, decide_true, decide_false, Bool.not_true, cond_false, ne_eq, not_true_eq_false, if_false]
    have h113 := Qmf (R := R) (k := k) ⟨2, r.id, r.nm, r.dat, r.hv, r.sz, r.sum, r.wt - 1, r.tr⟩ (by show r.hv.length ≤ 1000000; omega) (by show r.hv.length + 4 < k; omega) hi.sz
    have hq : lackF ⟨2, r.id, r.nm, r.dat, r.hv, r.sz, r.sum, r.wt - 1, r.tr⟩ = lackF r := rfl
    simp only [hq] at h113
    rw [h113]
    have hd : decide (((holesF r.hv r.sz).length : Int) > 2000) = decide (2000 < (holesF r.hv r.sz).length) := by rw [Bool.eq_iff_iff]; simp only [decide_eq_true_eq]; omega
    simp only [hsz, decide_false, cond_false, Qrn (show 1 < k by omega), Q9l r hs, hd]
    by_cases e3 : 2000 < (holesF r.hv r.sz).length
    ·simp [e3, apRF, zR]
    ·simp [e3, apRF, holeL, e]
 ·simp [e, apRF]
theorem Qrc {k : Nat} (r : Rv) (hk : r.hv.length + 3 < k) (hl : r.hv.length < 4611686018427387904) (K : Bool → Option R) :
  f38 k r.st r.id r.nm r.dat r.hv r.sz r.sum r.wt r.tr r.st r.id r.nm r.dat r.hv r.sz r.sum r.wt r.tr K = K true := by
 rw [Qz6]
 obtain ⟨k, rfl⟩ := Q1 hk
 simp only [f38d, Qrf (show 0 < k by omega), Qre (show r.hv.length + 1 < k by omega) hl, beq_self_eq_true, cond_true]
theorem Q12f (r : Rv) : (lackF r).length ≤ (holesF r.hv r.sz).length + 1 := by unfold lackF; cases emp r.nm <;> simp
end Go.Proofs.Ytlcklflbhhnnhaa.PM

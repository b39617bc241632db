/- Merged plain texts: PlL, PlLet, PlSend, PlSend2, PlRecv, PlRecv2, PlRecv3. -/
import Derived.Test.YtoepnomdklhhlaaPT
import Derived.Test.YtoepnomdklhhlaaBt
/- Plain laws of letters. -/
set_option linter.unusedSimpArgs false
set_option linter.unusedVariables false
namespace Go.Proofs.Ytoepnomdklhhlaa.PM
open Go Go.Proofs.Ytoepnomdklhhlaa.Bt
variable {R : Type}

theorem succ_of {k n : Nat} (h : n < k) : ∃ j, k = j + 1 := ⟨k - 1, by omega⟩
theorem beq_dec (a b : Int) : (a == b) = decide (a = b) := rfl
theorem bne_dec (a b : Int) : (a != b) = !decide (a = b) := rfl
theorem wi {n : Int} (h0 : -9223372036854775808 ≤ n) (h1 : n < 9223372036854775808) : IntKind.i64.wrap n = n := by rw [IntKind.wrap_i64]; omega
theorem tmod_nn {a b : Int} (h : 0 ≤ a) : Int.tmod a b = a % b := Int.tmod_eq_emod_of_nonneg h
theorem tdiv_nn {a b : Int} (h : 0 ≤ a) : Int.tdiv a b = a / b := Int.tdiv_eq_ediv_of_nonneg h
def inB (a lo hi : Int) : Bool := decide (lo ≤ a) && decide (a ≤ hi)
theorem inB_iff {a lo hi : Int} : inB a lo hi = true ↔ lo ≤ a ∧ a ≤ hi := by simp [inB]
theorem getD_in {α : Type} {l : List α} {i : Nat} {d : α} (h : i < l.length) : l.getD i d = l[i] := by rw [List.getD_eq_getElem?_getD, List.getElem?_eq_getElem h]; rfl

theorem f9_eq {k : Nat} (hk : 0 < k) (a lo hi : Int) (K : Bool → Option R) : f9 k a lo hi K = K (inB a lo hi) := by
 rw [f9_def]
 obtain ⟨k, rfl⟩ := succ_of hk
 simp only [f9d, inB]
 cases decide (lo ≤ a) <;> rfl
/-! sums -/
def sm : List Int → Nat → Int
 | [], _ => 0
 | b :: l, i => b * 2 ^ (24 - 8 * (i % 4)) + sm l (i + 1)
def U8 (l : List Int) : Prop := ∀ x ∈ l, 0 ≤ x ∧ x ≤ 255
theorem pw_le (i : Nat) : (1 : Int) ≤ 2 ^ (24 - 8 * (i % 4)) ∧ (2 : Int) ^ (24 - 8 * (i % 4)) ≤ 16777216 := by
 have h : i % 4 = 0 ∨ i % 4 = 1 ∨ i % 4 = 2 ∨ i % 4 = 3 := by omega
 rcases h with h | h | h | h <;> rw [h] <;> decide
theorem term_le {b : Int} (hb : 0 ≤ b ∧ b ≤ 255) (i : Nat) : 0 ≤ b * 2 ^ (24 - 8 * (i % 4)) ∧ b * 2 ^ (24 - 8 * (i % 4)) ≤ 4294967296 := by
 obtain ⟨h1, h2⟩ := pw_le i
 refine ⟨Int.mul_nonneg hb.1 (by omega), ?_⟩
 have := Int.mul_le_mul hb.2 h2 (by omega) (by omega)
 omega
theorem sm_le : ∀ {l : List Int} (hl : U8 l) (i : Nat), 0 ≤ sm l i ∧ sm l i ≤ l.length * 4294967296
 | [], _, _ => by simp [sm]
 | b :: l, hl, i => by
   have h1 := term_le (hl b (by simp)) i
   have h2 := sm_le (fun x hx => hl x (by simp [hx]) : U8 l) (i + 1)
   simp only [sm, List.length_cons]
   omega
theorem sh_eq (i : Nat) (hi : i < 100001) : IntKind.i64.wrap (24 - IntKind.i64.wrap (8 * Int.tmod (i : Int) 4)) = ((24 - 8 * (i % 4) : Nat) : Int) := by
 rw [tmod_nn (by omega), wi (n := 8 * ((i : Int) % 4)) (by omega) (by omega), wi (by omega) (by omega)]
 omega
theorem f41_loop (k : Nat) (x0 : Int → Option R) (l : List Int) (hl : (l.length : Int) ≤ 100000) (hu : U8 l) : ∀ (d f i : Nat) (v : Int), i + d = l.length → d < f → 0 ≤ v → v ≤ i * 4294967296 →
  f41_0d k x0 l (l.length : Int) f v (i : Int) = x0 (v + sm (l.drop i) i) := by
 intro d
 induction d with
 | zero =>
   intro f i v hi hf hv0 hv1
   obtain ⟨f, rfl⟩ := succ_of hf
   have h1 : decide ((i : Int) < (l.length : Int)) = false := by simp only [decide_eq_false_iff_not]; omega
   simp only [f41_0d, f41_0b, h1, cond_false]
   rw [List.drop_of_length_le (by omega)]
   simp [sm]
 | succ d ih =>
   intro f i v hi hf hv0 hv1
   obtain ⟨f, rfl⟩ := succ_of hf
   have h1 : decide ((i : Int) < (l.length : Int)) = true := by simp only [decide_eq_true_eq]; omega
   have h0 : decide ((0 : Int) ≤ (i : Int)) = true := by simp
   have hw : IntKind.i64.wrap ((i : Int) + 1) = ((i + 1 : Nat) : Int) := by rw [wi (by omega) (by omega)]; omega
   have hli : i < l.length := by omega
   have hb := hu l[i] (List.getElem_mem hli)
   have ht := term_le hb i
   have hs : decide ((0 : Int) ≤ ((24 - 8 * (i % 4) : Nat) : Int)) = true := by simp
   have hm : min (24 - 8 * (i % 4)) 64 = 24 - 8 * (i % 4) := by omega
   simp only [f41_0d, f41_0b, h1, h0, cond_true, Bool.and_self, Int.toNat_natCast, hw, sh_eq i (by omega), hs, hm]
   rw [getD_in hli, wi (n := l[i]) (by omega) (by omega), wi (n := l[i] * 2 ^ (24 - 8 * (i % 4))) (by omega) (by omega), wi (n := v + _) (by omega) (by omega),
    ih f (i + 1) _ (by omega) (by omega) (by omega) (by omega), List.drop_eq_getElem_cons hli]
   simp only [sm]
   rw [Int.add_assoc]
/-! names -/
theorem dlt (a b : Int) : decide (a < b) = !decide (b ≤ a) := by by_cases h : b ≤ a <;> simp [h] <;> omega
theorem dgt (a b : Int) : decide (a > b) = !decide (a ≤ b) := by by_cases h : a ≤ b <;> simp [h] <;> omega
def charOk (i : Nat) (c : Int) : Bool := (decide (97 ≤ c) && decide (c ≤ 122)) || (decide (i ≠ 0) && (decide (c = 45) || decide (c = 95) || (decide (48 ≤ c) && decide (c ≤ 57))))
def nameF : List Int → Nat → Bool
 | [], _ => true
 | c :: l, i => charOk i c && nameF l (i + 1)
noncomputable def nameOk (s : ByteArray) : Bool := decide (s.size ≠ 0) && decide (s.size ≤ 40) && nameF (bytesOf s) 0
theorem bytesOf_len (s : ByteArray) : (bytesOf s).length = s.size := by simp only [bytesOf, List.length_map, Array.length_toList]; rfl
theorem f37_loop (k : Nat) (K : Bool → Option R) (x0 : Option R) (s : ByteArray) (hs : s.size < 4611686018427387904) : ∀ (d f i : Nat), i + d = s.size → d < f →
  f37_0d k K x0 s (s.size : Int) f (i : Int) = bif nameF ((bytesOf s).drop i) i then x0 else K false
 | d, 0, i, _, h => absurd h (Nat.not_lt_zero _)
 | 0, f + 1, i, hi, _ => by
   have h1 : decide ((i : Int) < (s.size : Int)) = false := by simp only [decide_eq_false_iff_not]; omega
   simp only [f37_0d, f37_0b, h1, cond_false]
   rw [List.drop_of_length_le (by rw [bytesOf_len]; omega)]
   rfl
 | d + 1, f + 1, i, hi, hf => by
   have h1 : decide ((i : Int) < (s.size : Int)) = true := by simp only [decide_eq_true_eq]; omega
   have h0 : decide ((0 : Int) ≤ (i : Int)) = true := by simp
   have hw : IntKind.i64.wrap ((i : Int) + 1) = ((i + 1 : Nat) : Int) := by rw [wi (by omega) (by omega)]; omega
   have hli : i < (bytesOf s).length := by rw [bytesOf_len]; omega
   have ih := f37_loop k K x0 s hs d f (i + 1) (by omega) (by omega)
   simp only [f37_0d, f37_0b]
   generalize hc : (bytesOf s).getD (Int.toNat (i : Int)) 0 = c
   have hc' : (bytesOf s)[i] = c := by rw [← hc, Int.toNat_natCast, getD_in hli]
   simp only [h1, h0, cond_true, Bool.and_self, hw, ih]
   rw [List.drop_eq_getElem_cons hli, hc']
   simp only [nameF]
   generalize nameF ((bytesOf s).drop (i + 1)) (i + 1) = z
   have hz : ((i : Int) == 0) = decide (i = 0) := by rw [beq_dec]; simp
   simp only [charOk, hz, beq_dec, bne_dec, dlt, dgt, ge_iff_le]
   by_cases e1 : 97 ≤ c <;> by_cases e2 : c ≤ 122 <;> by_cases e3 : i = 0 <;> by_cases e4 : c = 45 <;> by_cases e5 : c = 95 <;> by_cases e6 : 48 ≤ c <;> by_cases e7 : c ≤ 57 <;>
    first | (exfalso; omega) | simp [e1, e2, e3, e4, e5, e6, e7]
def emp (s : ByteArray) : Bool := s.toList == (⟨#[]⟩ : ByteArray).toList
theorem emp_size (s : ByteArray) : emp s = decide (s.size = 0) := by
 simp only [emp, ByteArray.toList_eq]
 have h1 : s.data.toList.length = s.size := rfl
 cases h : s.data.toList with
 | nil => rw [h] at h1; have : s.size = 0 := h1.symm; rw [this]; rfl
 | cons a l => rw [h] at h1; have : s.size ≠ 0 := by rw [← h1]; simp
               simp only [this, decide_false]; rfl
theorem f37_eq {k : Nat} {s : ByteArray} (hk : s.size + 1 < k) (hs : s.size < 4611686018427387904) (K : Bool → Option R) : f37 k s K = K (nameOk s) := by
 rw [f37_def]
 obtain ⟨k, rfl⟩ := succ_of hk
 have he : (s.toList == (⟨#[]⟩ : ByteArray).toList) = decide (s.size = 0) := emp_size s
 simp only [f37d, he, nameOk, f37_0_def]
 have h := f37_loop k K (K true) s hs s.size k 0 (by omega) (by omega)
 rw [show ((0 : Nat) : Int) = 0 from rfl] at h
 rw [h]
 have hg : ∀ n : Nat, decide ((n : Int) > 40) = !decide (n ≤ 40) := by intro n; rw [Bool.eq_iff_iff]; simp only [Bool.not_eq_true', decide_eq_true_eq, decide_eq_false_iff_not]; omega
 have hne : decide (s.size ≠ 0) = !decide (s.size = 0) := by by_cases h : s.size = 0 <;> simp only [h, ne_eq, not_true_eq_false, not_false_eq_true, decide_true, decide_false, Bool.not_true, Bool.not_false]
 rw [hg, hne, List.drop_zero]
 cases decide (s.size = 0) <;> cases decide (s.size ≤ 40) <;> cases nameF (bytesOf s) 0 <;> rfl
/-! kit.First -/
/-! what a letter may hold -/
abbrev Rg := Int × (Int × Unit)
def extra (kind : Int) (e : Bool) (a b c : Int) (m : Nat) (n : Nat) (f : Bool) : Bool :=
 !((decide (kind = 1) || e) && (decide (kind = 1) || decide (kind = 3) || (decide (a = 0) && decide (b = 0))) && (decide (kind = 2) || (decide (c = 0) && decide (m = 0))) && (decide (kind = 4) || decide (n = 0)) && (decide (kind = 5) || !f))
theorem lenpos (n : Nat) : decide ((n : Int) > 0) = !decide (n = 0) := by by_cases h : n = 0 <;> simp [h]; omega
theorem leneq (n : Nat) : decide ((n : Int) = 0) = decide (n = 0) := by simp
end Go.Proofs.Ytoepnomdklhhlaa.PM
/- Plain laws of letters: ranges, letters, receivers' figures. -/
set_option linter.unusedSimpArgs false
set_option linter.unusedVariables false
namespace Go.Proofs.Ytoepnomdklhhlaa.PM
open Go Go.Proofs.Ytoepnomdklhhlaa.Bt
variable {R : Type}

/-! ranges -/
def rgF (lim : Int) : Option Int → List Rg → Int
 | _, [] => 0
 | p, x :: l => if x.1 < 0 then 1 else if x.2.1 > lim then 1 else if x.2.1 ≤ x.1 then 13 else if (match p with | some e => decide (x.1 ≤ e) | none => false) then 8 else rgF lim (some x.2.1) l
def before (l : List Rg) (i : Nat) : Option Int := if i = 0 then none else some (l.getD (i - 1) (0, (0, ()))).2.1
def chkRgs (l : List Rg) (lim : Int) : Int := if inB lim 0 100000 = false then 1 else if 2000 < l.length then 2 else rgF lim none l
/-! the beginning of a list of ranges -/
def headF (l : List Rg) : Bool := match l with | [] => false | x :: _ => decide (x.1 = -1) && decide (x.2.1 = 0)
def cutF (l : List Rg) : List Rg := bif headF l then l.drop 1 else l
theorem f52_eq {k : Nat} (hk : 1 < k) (l : List Rg) (K : List Rg → Bool → Option R) : f52 k l K = K (cutF l) (headF l) := by
 rw [f52_def]
 obtain ⟨k, rfl⟩ := succ_of hk
 obtain ⟨k, rfl⟩ := succ_of (show 0 < k by omega)
 simp only [f52d, f53_def, f53d]
 cases l with
 | nil => simp [cutF, headF]
 | cons x l =>
   have h1 : decide (((x :: l).length : Int) > 0) = true := by simp only [decide_eq_true_eq, List.length_cons]; omega
   have h2 : decide (0 < ((x :: l).length : Int)) = true := by simp only [decide_eq_true_eq, List.length_cons]; omega
   have h3 : decide (1 ≤ ((x :: l).length : Int)) = true := by simp only [decide_eq_true_eq, List.length_cons]; omega
   simp only [h1, h2, h3, cond_true, cutF, headF, beq_dec, List.getD_cons_zero, Bool.and_true, beq_self_eq_true]
   cases decide (x.1 = -1) && decide (x.2.1 = 0) <;> rfl
theorem cutF_len (l : List Rg) : (cutF l).length ≤ l.length := by
 unfold cutF
 cases headF l <;> simp

/-! a letter -/
noncomputable def chkLetter (kind num : Int) (s : ByteArray) (a b c : Int) (l : List Int) (rs : List Rg) (f : Bool) : Int :=
 if inB kind 1 6 = false then 4 else if inB num 0 65535 = false then 1 else if extra kind (emp s) a b c l.length rs.length f = true then 3
 else if kind = 1 ∧ nameOk s = false then 5
 else if kind = 1 ∨ kind = 3 then (if inB a 0 100000 = true ∧ inB b 0 4294967295 = true then 0 else 1)
 else if kind = 2 then (if inB c 0 100000 = false then 1 else if l.length = 0 then 13 else if 4096 < l.length then 2 else if c + l.length > 100000 then 2 else 0)
 else if kind = 4 then (if rs.length = 0 then 9 else chkRgs (cutF rs) 100000) else 0
def chkFig (a b c d e : Int) : Int := if inB a 1 4096 && inB b 1 1000000 && inB c 1 100 && inB d 1 1000000 && inB e 0 50 then 0 else 1
theorem f14_eq {k : Nat} (hk : 1 < k) (a b c d e : Int) (K : Int → Option R) : f14 k a b c d e K = K (chkFig a b c d e) := by
 rw [f14_def]
 obtain ⟨k, rfl⟩ := succ_of hk
 simp only [f14d, f9_eq (show 0 < k by omega), chkFig]
 cases inB a 1 4096 <;> cases inB b 1 1000000 <;> cases inB c 1 100 <;> cases inB d 1 1000000 <;> cases inB e 0 50 <;> rfl
end Go.Proofs.Ytoepnomdklhhlaa.PM
/- Plain laws of senders. -/
set_option linter.unusedSimpArgs false
set_option linter.unusedVariables false
namespace Go.Proofs.Ytoepnomdklhhlaa.PM
open Go Go.Proofs.Ytoepnomdklhhlaa.Bt
variable {R : Type}

theorem LIM1 : LIM 1 = 140737488355328 := by simp [LIM]
theorem LIM16 : LIM 16 = 8796093022208 := by simp [LIM]
theorem LIM112 : 1000000 ≤ LIM 112 := by simp [LIM]
def sumOf (l : List Int) : Int := sm l 0 % 4294967296
theorem f41_eq {k : Nat} {l : List Int} (hk : l.length + 2 < k) (hl : (l.length : Int) ≤ 100000) (hu : U8 l) (K : Int → Option R) : f41 k l K = K (sumOf l) := by
 rw [f41_def]
 obtain ⟨k, rfl⟩ := succ_of hk
 have h2 := sm_le hu 0
 simp only [f41d, f41_0_def]
 refine (f41_loop k _ l (by omega) hu l.length k 0 0 (by omega) (by omega) (by omega) (by omega)).trans ?_
 have := mask_i64 (sm l 0) 32 (by omega) h2.1 (by omega)
 simp only [List.drop_zero, Int.zero_add]
 rw [show (4294967295 : Int) = 2 ^ 32 - 1 from rfl, this]
 rfl
theorem f27_eq {k : Nat} {l : List Int} (hk : 0 < k) (hl : l.length ≤ 1000000000) (K : List Int → Option R) : f27 k l K = K l := by
 rw [f27_def]
 obtain ⟨k, rfl⟩ := succ_of hk
 have : decide (l.length ≤ LIM 1) = true := by rw [LIM1]; simp only [decide_eq_true_eq]; omega
 simp only [f27d, this, cond_true]
theorem f54_eq {k : Nat} {l : List Rg} (hk : 0 < k) (hl : l.length ≤ 1000000000) (K : List Rg → Option R) : f54 k l K = K l := by
 rw [f54_def]
 obtain ⟨k, rfl⟩ := succ_of hk
 have : decide (l.length ≤ LIM 16) = true := by rw [LIM16]; simp only [decide_eq_true_eq]; omega
 simp only [f54d, this, cond_true]

/-! what is begun -/
noncomputable def chkFile (id : Int) (nm : ByteArray) (n : Nat) : Int := if inB id 0 65535 = false then 1 else if nameOk nm = false then 5 else if 100000 < n then 2 else 0
theorem d100000 (n : Nat) : decide ((n : Int) > 100000) = decide (100000 < n) := by rw [Bool.eq_iff_iff]; simp only [decide_eq_true_eq]; omega
theorem f26_eq {k : Nat} (id : Int) (s : ByteArray) (l : List Int) (hk : s.size + 4 < k) (hs : s.size < 4611686018427387904) (K : Int → Option R) : f26 k id s l K = K (chkFile id s l.length) := by
 rw [f26_def]
 obtain ⟨k, rfl⟩ := succ_of hk
 simp only [f26d, f9_eq (show 0 < k by omega), f37_eq (show s.size + 1 < k by omega) hs, chkFile, d100000]
 cases inB id 0 65535
 ·rfl
 ·cases nameOk s
  ·rfl
  ·by_cases h : 100000 < l.length <;> simp [h]
theorem chkFile_ok {id : Int} {s : ByteArray} {n : Nat} (h : chkFile id s n = 0) : n ≤ 100000 := by
 unfold chkFile at h
 split at h
 ·cases h
 ·split at h
  ·cases h
  ·split at h
   ·cases h
   ·omega

structure Sd where
 st : Int
 id : Int
 nm : ByteArray
 dat : List Int
 nx : Int
 hs : List Rg
 wt : Int
 tr : Int
def zS : Sd := ⟨0, 0, ⟨#[]⟩, [], 0, [], 0, 0⟩
abbrev Lt := Int × (Int × (ByteArray × (Int × (Int × (Int × (List Int × (List Rg × (Bool × Unit))))))))
/-! a sender -/
noncomputable def chkSend (s : Sd) : Int :=
 if chkFile s.id s.nm s.dat.length ≠ 0 then chkFile s.id s.nm s.dat.length else if inB s.st 1 4 = false then 4
 else if inB s.nx (-1) s.dat.length = false then 1 else if inB s.wt 0 1000000 = false then 1 else if inB s.tr 0 50 = false then 1
 else if chkRgs (cutF s.hs) s.dat.length ≠ 0 then chkRgs (cutF s.hs) s.dat.length
 else if s.st = 2 then (if s.nx = s.dat.length ∧ s.hs.length = 0 ∧ s.wt ≠ 0 then 0 else 11) else if s.wt = 0 then 0 else 11
/-! what a checked sender is -/
def RgOk (n : Int) (x : Rg) : Prop := 0 ≤ x.1 ∧ x.1 < x.2.1 ∧ x.2.1 ≤ n
theorem rgF_ok {lim : Int} : ∀ {p : Option Int} {l : List Rg}, rgF lim p l = 0 → ∀ x ∈ l, RgOk lim x
 | _, [], _, x, hx => by cases hx
 | p, y :: l, h, x, hx => by
   have hb : RgOk lim y ∧ rgF lim (some y.2.1) l = 0 := by
    simp only [rgF] at h
    by_cases q1 : y.1 < 0
    ·simp [q1] at h
    by_cases q2 : y.2.1 > lim
    ·simp [q1, q2] at h
    by_cases q3 : y.2.1 ≤ y.1
    ·simp [q1, q2, q3] at h
    have hr : RgOk lim y := ⟨by omega, by omega, by omega⟩
    cases p with
    | none => exact ⟨hr, by simpa [q1, q2, q3] using h⟩
    | some e =>
      by_cases q4 : y.1 ≤ e
      ·simp [q1, q2, q3, q4] at h
      ·exact ⟨hr, by simpa [q1, q2, q3, q4] using h⟩
   rcases List.mem_cons.1 hx with rfl | hx
   ·exact hb.1
   ·exact rgF_ok hb.2 x hx
theorem chkRgs_ok {l : List Rg} {lim : Int} (h : chkRgs l lim = 0) : (0 ≤ lim ∧ lim ≤ 100000) ∧ l.length ≤ 2000 ∧ ∀ x ∈ l, RgOk lim x := by
 unfold chkRgs at h
 split at h
 ·cases h
 ·rename_i h1
  split at h
  ·cases h
  ·exact ⟨inB_iff.1 (by simpa using h1), by omega, rgF_ok h⟩
structure SInv (s : Sd) : Prop where
 len : (s.dat.length : Int) ≤ 100000
 u8 : U8 s.dat
 nx0 : -1 ≤ s.nx
 nx1 : s.nx ≤ s.dat.length
 hsl : s.hs.length ≤ 2001
 rg : ∀ x ∈ cutF s.hs, RgOk s.dat.length x
theorem headF_cut {l : List Rg} {n : Int} (h : ∀ x ∈ l, RgOk n x) : headF l = false := by
 cases l with
 | nil => rfl
 | cons x l =>
   have := (h x (by simp)).1
   have h1 : ¬ x.1 = -1 := by omega
   simp [headF, h1]
theorem cutF_of {l : List Rg} (h : headF l = false) : cutF l = l := by simp [cutF, h]

/-! one letter -/
def metaL (s : Sd) : Lt := (1, (s.id, (s.nm, ((s.dat.length : Int), (sumOf s.dat, (0, ([], ([], (false, ())))))))))
def endL (s : Sd) : Lt := (3, (s.id, (⟨#[]⟩, ((s.dat.length : Int), (sumOf s.dat, (0, ([], ([], (false, ())))))))))
def dataL (s : Sd) (a b : Int) : Lt := (2, (s.id, (⟨#[]⟩, (0, (0, (a, ((s.dat.take b.toNat).drop a.toNat, ([], (false, ())))))))))
def mn (a b : Int) : Int := if a < b then a else b
def oneS (seg wait : Int) (s : Sd) : Sd × Lt :=
 if s.nx < 0 then ({ s with nx := 0 }, metaL s)
 else if headF s.hs = true then ({ s with hs := cutF s.hs }, metaL s)
 else match s.hs with
 | x :: r => ({ s with hs := if mn (x.1 + seg) x.2.1 < x.2.1 then (mn (x.1 + seg) x.2.1, (x.2.1, ())) :: r else r }, dataL s x.1 (mn (x.1 + seg) x.2.1))
 | [] => if s.nx < s.dat.length then ({ s with nx := mn (s.nx + seg) s.dat.length }, dataL s s.nx (mn (s.nx + seg) s.dat.length)) else ({ s with st := 2, wt := wait }, endL s)
theorem oneS_inv {seg wait : Int} (hg : 1 ≤ seg) {s : Sd} (h : SInv s) : SInv (oneS seg wait s).1 := by
 obtain ⟨h1, h2, h3, h4, h5, h6⟩ := h
 unfold oneS
 split
 ·exact ⟨h1, h2, by show (-1 : Int) ≤ 0; omega, by show (0 : Int) ≤ s.dat.length; omega, h5, h6⟩
 ·split
  ·rename_i hn hh
   have := cutF_len s.hs
   refine ⟨h1, h2, h3, h4, by show (cutF s.hs).length ≤ 2001; omega, ?_⟩
   show ∀ x ∈ cutF (cutF s.hs), RgOk s.dat.length x
   rw [cutF_of (headF_cut h6)]
   exact h6
  ·rename_i hn hh
   have hh : headF s.hs = false := by simpa using hh
   rw [cutF_of hh] at h6
   split
   ·rename_i x r e
    rw [e] at h5 h6
    have hx := h6 x (by simp)
    have hr : ∀ y ∈ r, RgOk s.dat.length y := fun y hy => h6 y (by simp [hy])
    simp only [List.length_cons] at h5
    refine ⟨h1, h2, h3, h4, ?_, ?_⟩
    ·show (if mn (x.1 + seg) x.2.1 < x.2.1 then (mn (x.1 + seg) x.2.1, (x.2.1, ())) :: r else r).length ≤ 2001
     split
     ·simp only [List.length_cons]; omega
     ·omega
    ·show ∀ y ∈ cutF (if mn (x.1 + seg) x.2.1 < x.2.1 then (mn (x.1 + seg) x.2.1, (x.2.1, ())) :: r else r), RgOk s.dat.length y
     have hall : ∀ y ∈ (if mn (x.1 + seg) x.2.1 < x.2.1 then (mn (x.1 + seg) x.2.1, (x.2.1, ())) :: r else r), RgOk s.dat.length y := by
      split
      ·rename_i hm
       intro y hy
       rcases List.mem_cons.1 hy with rfl | hy
       ·refine ⟨?_, hm, hx.2.2⟩
        show 0 ≤ mn (x.1 + seg) x.2.1
        have := hx.1
        have := hx.2.1
        unfold mn; split <;> omega
       ·exact hr y hy
      ·exact hr
     rw [cutF_of (headF_cut hall)]
     exact hall
   ·rename_i e
    split
    ·refine ⟨h1, h2, ?_, ?_, h5, by rw [← cutF_of hh] at h6; exact h6⟩
     ·show -1 ≤ mn (s.nx + seg) s.dat.length
      unfold mn; split <;> omega
     ·show mn (s.nx + seg) s.dat.length ≤ s.dat.length
      unfold mn; split <;> omega
    ·exact ⟨h1, h2, h3, h4, h5, by rw [← cutF_of hh] at h6; exact h6⟩
def apSL (K : Int → Int → ByteArray → List Int → Int → List Rg → Int → Int → Int → Int → ByteArray → Int → Int → Int → Bool → List Int → Option R) (x : Sd × Lt) : Option R :=
 K x.1.st x.1.id x.1.nm x.1.dat x.1.nx x.1.hs x.1.wt x.1.tr x.2.1 x.2.2.1 x.2.2.2.1 x.2.2.2.2.1 x.2.2.2.2.2.1 x.2.2.2.2.2.2.1 x.2.2.2.2.2.2.2.2.2.1 x.2.2.2.2.2.2.2.1
theorem f44_eq {k : Nat} {l : List Int} (hk : l.length + 3 < k) (hl : (l.length : Int) ≤ 100000) (hu : U8 l) (st id : Int) (nm : ByteArray) (nx : Int) (hs : List Rg) (wt tr : Int)
  (K : Int → Int → ByteArray → Int → Int → Int → Bool → Option R) : f44 k st id nm l nx hs wt tr K = K 3 id ⟨#[]⟩ l.length (sumOf l) 0 false := by
 rw [f44_def]
 obtain ⟨k, rfl⟩ := succ_of hk
 simp only [f44d, f41_eq (show l.length + 2 < k by omega) hl hu]
theorem slice_len {l : List Int} (a b : Nat) : ((l.take b).drop a).length ≤ l.length := by simp only [List.length_drop, List.length_take]; omega
theorem f55_eq {k : Nat} {l : List Int} (hk : 2 < k) (hl : (l.length : Int) ≤ 100000) {a n : Int} (ha : 0 ≤ a) (hn : 0 ≤ n) (hb : a + n ≤ l.length) (st id : Int) (nm : ByteArray) (nx : Int) (hs : List Rg) (wt tr : Int)
  (K : Int → Int → ByteArray → Int → Int → Int → Bool → List Int → Option R) : f55 k st id nm l nx hs wt tr a n K = K 2 id ⟨#[]⟩ 0 0 a false ((l.take (a + n).toNat).drop a.toNat) := by
 rw [f55_def]
 obtain ⟨k, rfl⟩ := succ_of hk
 simp only [f55d]
 rw [wi (n := a + n) (by omega) (by omega)]
 have h1 : decide (0 ≤ a) = true := by simp only [decide_eq_true_eq]; omega
 have h2 : decide (a ≤ a + n) = true := by simp only [decide_eq_true_eq]; omega
 have h3 : decide (a + n ≤ (l.length : Int)) = true := by simp only [decide_eq_true_eq]; omega
 have := slice_len (l := l) a.toNat (a + n).toNat
 simp only [h1, h2, h3, Bool.and_self, cond_true, f27_eq (l := (l.take (a + n).toNat).drop a.toNat) (show 0 < k by omega) (by omega)]
theorem mn_sub {a seg b : Int} : a + mn seg (b - a) = mn (a + seg) b := by unfold mn; split <;> split <;> omega
theorem f45_eq {k : Nat} (seg x2 x3 wait x5 : Int) (s : Sd) (hg : 1 ≤ seg ∧ seg ≤ 4096) (hi : SInv s) (hk : s.dat.length + 10 < k)
  (K : Int → Int → ByteArray → List Int → Int → List Rg → Int → Int → Int → Int → ByteArray → Int → Int → Int → Bool → List Int → Option R) :
  f45 k seg x2 x3 wait x5 s.st s.id s.nm s.dat s.nx s.hs s.wt s.tr K = apSL K (oneS seg wait s) := by
 obtain ⟨h1, h2, h3, h4, h5, h6⟩ := hi
 rw [f45_def]
 obtain ⟨k, rfl⟩ := succ_of hk
 simp only [f45d, f53_def, f41_eq (show s.dat.length + 2 < k by omega) h1 h2, f44_eq (show s.dat.length + 3 < k by omega) h1 h2, beq_dec, oneS]
 by_cases e1 : s.nx < 0
 ·have : s.nx = -1 := by omega
  simp only [this, decide_true, cond_true]
  simp [apSL, metaL]
 ·have e1' : ¬ s.nx = -1 := by omega
  simp only [e1, e1', decide_false, cond_false, if_false]
  obtain ⟨k, rfl⟩ := succ_of (show 0 < k by omega)
  simp only [f53d]
  have hw0 : IntKind.i64.wrap (s.dat.length - s.nx) = s.dat.length - s.nx := wi (by omega) (by omega)
  cases e : s.hs with
  | nil =>
    have hh : headF ([] : List Rg) = false := rfl
    have z1 : decide (((([] : List Rg)).length : Int) > 0) = false := by simp
    simp only [z1, hh, Bool.false_eq_true, if_false, cond_false]
    rw [show (false == true) = false from rfl]
    simp only [cond_false, hw0]
    by_cases e2 : s.nx < s.dat.length
    ·have hm : mn seg (s.dat.length - s.nx) = if seg < s.dat.length - s.nx then seg else s.dat.length - s.nx := rfl
     rw [← hm]
     have hm0 : 0 ≤ mn seg (s.dat.length - s.nx) := by unfold mn; split <;> omega
     have hm1 : s.nx + mn seg (s.dat.length - s.nx) ≤ s.dat.length := by unfold mn; split <;> omega
     rw [wi (n := s.nx + mn seg (s.dat.length - s.nx)) (by omega) (by omega)]
     simp only [e2, decide_true, cond_true, if_true, f55_eq (show 2 < k + 1 by omega) h1 (show 0 ≤ s.nx by omega) hm0 hm1, apSL, dataL, mn_sub, e]
    ·simp only [e2, decide_false, cond_false, if_false, apSL, endL, e]
  | cons x r =>
    have z1 : decide (((x :: r).length : Int) > 0) = true := by simp only [decide_eq_true_eq, List.length_cons]; omega
    have z2 : decide (0 < ((x :: r).length : Int)) = true := by simp only [decide_eq_true_eq, List.length_cons]; omega
    have z3 : decide (1 ≤ ((x :: r).length : Int)) = true := by simp only [decide_eq_true_eq, List.length_cons]; omega
    rw [e] at h5 h6
    simp only [List.length_cons] at h5
    simp only [z1, z2, z3, cond_true, beq_self_eq_true, List.getD_cons_zero, Bool.and_true]
    cases hh : headF (x :: r)
    ·have hh' : (decide (x.1 = -1) && decide (x.2.1 = 0)) = false := hh
     rw [cutF_of hh] at h6
     obtain ⟨hx1, hx2, hx3⟩ := h6 x (by simp)
     rw [wi (n := x.2.1 - x.1) (by omega) (by omega)]
     have hm : mn seg (x.2.1 - x.1) = if seg < x.2.1 - x.1 then seg else x.2.1 - x.1 := rfl
     rw [← hm]
     have hm0 : 0 ≤ mn seg (x.2.1 - x.1) := by unfold mn; split <;> omega
     have hm1 : x.1 + mn seg (x.2.1 - x.1) ≤ s.dat.length := by unfold mn; split <;> omega
     simp only [hh', cond_false, f55_eq (show 2 < k + 1 by omega) h1 hx1 hm0 hm1, f54_eq (l := x :: r) (show 0 < k + 1 by omega) (by simp only [List.length_cons]; omega), z2, cond_true, List.getD_cons_zero,
      List.set_cons_zero, List.length_cons]
     rw [wi (n := x.1 + mn seg (x.2.1 - x.1)) (by omega) (by omega), mn_sub]
     have z4 : decide (0 < (((r.length + 1 : Nat)) : Int)) = true := by simp only [decide_eq_true_eq]; omega
     have z5 : decide (1 ≤ (((r.length + 1 : Nat)) : Int)) = true := by simp only [decide_eq_true_eq]; omega
     simp only [z4, z5, cond_true, f45_1000018_def, f45_1000018d, List.length_cons, List.drop_succ_cons, List.drop_zero, Nat.add_sub_cancel, List.take_length]
     by_cases e3 : mn (x.1 + seg) x.2.1 = x.2.1
     ·have e4 : ¬ mn (x.1 + seg) x.2.1 < x.2.1 := by omega
      simp only [e3, decide_true, cond_true, Int.lt_irrefl, if_false, apSL, dataL, Bool.false_eq_true]
     ·have e4 : mn (x.1 + seg) x.2.1 < x.2.1 := by 
       have : mn (x.1 + seg) x.2.1 ≤ x.2.1 := by unfold mn; split <;> omega
       omega
      simp only [e3, decide_false, cond_false, e4, if_true, if_false, apSL, dataL, Bool.false_eq_true]
    ·have hh' : (decide (x.1 = -1) && decide (x.2.1 = 0)) = true := hh
     simp only [hh', cond_true, if_true, List.drop_succ_cons, List.drop_zero, f54_eq (l := r) (show 0 < k + 1 by omega) (by omega), f41_eq (show s.dat.length + 2 < k + 1 by omega) h1 h2, apSL, metaL, cutF, hh]
end Go.Proofs.Ytoepnomdklhhlaa.PM
/- Plain laws of senders: the reference's letter, ticks. -/
set_option linter.unusedSimpArgs false
set_option linter.unusedVariables false
namespace Go.Proofs.Ytoepnomdklhhlaa.PM
open Go Go.Proofs.Ytoepnomdklhhlaa.Bt
variable {R : Type}

/-! a run of letters -/
def runS (seg wait : Int) : Nat → Sd → List Lt → Sd × List Lt
 | 0, s, o => (s, o)
 | d + 1, s, o => if s.st = 1 then runS seg wait d (oneS seg wait s).1 (o ++ [(oneS seg wait s).2]) else (s, o)
theorem oneS_eta (seg wait : Int) (s : Sd) : ((oneS seg wait s).2.1, ((oneS seg wait s).2.2.1, ((oneS seg wait s).2.2.2.1, ((oneS seg wait s).2.2.2.2.1, ((oneS seg wait s).2.2.2.2.2.1, ((oneS seg wait s).2.2.2.2.2.2.1, ((oneS seg wait s).2.2.2.2.2.2.2.1, (([] : List Rg), ((oneS seg wait s).2.2.2.2.2.2.2.2.2.1, ()))))))))) = (oneS seg wait s).2 := by
 unfold oneS
 split
 ·rfl
 ·split
  ·rfl
  ·split
   ·rfl
   ·split <;> rfl
theorem oneS_dat (seg wait : Int) (s : Sd) : (oneS seg wait s).1.dat = s.dat := by
 unfold oneS
 split
 ·rfl
 ·split
  ·rfl
  ·split
   ·rfl
   ·split <;> rfl
def apSO (K : Int → Int → ByteArray → List Int → Int → List Rg → Int → Int → List Lt → Option R) (x : Sd × List Lt) : Option R := K x.1.st x.1.id x.1.nm x.1.dat x.1.nx x.1.hs x.1.wt x.1.tr x.2
theorem f32_loop (k : Nat) (x0 : Int → Int → ByteArray → List Int → Int → List Rg → Int → Int → List Lt → Option R) (seg x2 wait x5 : Int) (rate : Nat) (hr : rate ≤ 100) (hg : 1 ≤ seg ∧ seg ≤ 4096) (y0 y1 : Int) (y2 : ByteArray) (y3 y4 y5 : Int) :
  ∀ (d f : Nat) (s : Sd) (o : List Lt), o.length + d = rate → d < f → SInv s → s.dat.length + 10 < k →
  f32_0d k x0 seg x2 (rate : Int) wait x5 y0 y1 y2 y3 y4 y5 f s.st s.id s.nm s.dat s.nx s.hs s.wt s.tr o = apSO x0 (runS seg wait d s o) := by
 intro d
 induction d with
 | zero =>
   intro f s o ho hf hi hk
   obtain ⟨f, rfl⟩ := succ_of hf
   have h1 : decide ((o.length : Int) < (rate : Int)) = false := by simp only [decide_eq_false_iff_not]; omega
   simp only [f32_0d, f32_0b, h1]
   rfl
 | succ d ih =>
   intro f s o ho hf hi hk
   obtain ⟨f, rfl⟩ := succ_of hf
   have h1 : decide ((o.length : Int) < (rate : Int)) = true := by simp only [decide_eq_true_eq]; omega
   simp only [f32_0d, f32_0b, h1, beq_self_eq_true, cond_true, beq_dec, runS]
   by_cases e : s.st = 1
   ·have hL := LIM112
    have h2 : decide (o.length + ([(oneS seg wait s).2] : List Lt).length ≤ LIM 112) = true := by simp only [decide_eq_true_eq, List.length_singleton]; omega
    simp only [e, decide_true, cond_true, if_true]
    rw [← e, f45_eq seg x2 (rate : Int) wait x5 s hg hi hk]
    simp only [apSL, oneS_eta]
    simp only [h2, cond_true]
    exact ih f (oneS seg wait s).1 _ (by simp; omega) (by omega) (oneS_inv hg.1 hi) (by rw [oneS_dat]; exact hk)
   ·simp only [e, decide_false, cond_false, if_false]
    rfl
/-! a tick of a sender -/
def stopL (s : Sd) : Lt := (6, (s.id, (⟨#[]⟩, (0, (0, (0, ([], ([], (false, ())))))))))
def tickS (seg : Int) (rate : Nat) (wait most : Int) (s : Sd) : Sd × List Lt :=
 if s.st = 2 then (if s.wt - 1 > 0 then ({ s with wt := s.wt - 1 }, []) else if s.tr ≥ most then ({ s with st := 4, wt := s.wt - 1 }, [stopL s]) else ({ s with wt := wait, tr := s.tr + 1 }, [endL s]))
 else runS seg wait rate s []
theorem f32_eq {k : Nat} (seg x2 wait most : Int) (rate : Nat) (s : Sd) (hr : rate ≤ 100) (hg : 1 ≤ seg ∧ seg ≤ 4096) (hi : SInv s) (hw : 0 ≤ s.wt ∧ s.wt ≤ 1000000) (ht : 0 ≤ s.tr ∧ s.tr ≤ 50) (hk : s.dat.length + rate + 20 < k)
  (K : Int → Int → ByteArray → List Int → Int → List Rg → Int → Int → List Lt → Option R) :
  f32 k seg x2 (rate : Int) wait most s.st s.id s.nm s.dat s.nx s.hs s.wt s.tr K = apSO K (tickS seg rate wait most s) := by
 rw [f32_def]
 obtain ⟨k, rfl⟩ := succ_of hk
 simp only [f32d, f44_eq (show s.dat.length + 3 < k by omega) hi.len hi.u8, beq_dec, tickS]
 rw [wi (n := s.wt - 1) (by omega) (by omega), wi (n := s.tr + 1) (by omega) (by omega)]
 by_cases e : s.st = 2
 ·by_cases e1 : s.wt - 1 > 0
  ·simp only [e, e1, decide_true, cond_true, if_true]; simp only [apSO, e]
  ·by_cases e2 : s.tr ≥ most
   ·simp only [e, e1, e2, decide_true, decide_false, cond_true, cond_false, if_true, if_false]; simp only [apSO, stopL]
   ·simp only [e, e1, e2, decide_true, decide_false, cond_true, cond_false, if_true, if_false]; simp only [apSO, endL, e]
 ·simp only [e, decide_false, cond_false, if_false, f32_0_def]
  exact f32_loop k _ seg x2 wait most rate hr hg 0 0 ⟨#[]⟩ 0 0 0 rate k s [] (by simp) (by omega) hi (by omega)
theorem chkSend_ok {s : Sd} (h : chkSend s = 0) (hu : U8 s.dat) : SInv s ∧ (0 ≤ s.wt ∧ s.wt ≤ 1000000) ∧ (0 ≤ s.tr ∧ s.tr ≤ 50) := by
 unfold chkSend at h
 by_cases h1 : chkFile s.id s.nm s.dat.length = 0
 ·cases h2 : inB s.st 1 4
  ·simp [h1, h2] at h
  ·cases h3 : inB s.nx (-1) s.dat.length
   ·simp [h1, h2, h3] at h
   ·cases h4 : inB s.wt 0 1000000
    ·simp [h1, h2, h3, h4] at h
    ·cases h5 : inB s.tr 0 50
     ·simp [h1, h2, h3, h4, h5] at h
     ·by_cases h6 : chkRgs (cutF s.hs) s.dat.length = 0
      ·obtain ⟨_, q1, q2⟩ := chkRgs_ok h6
       have q3 := chkFile_ok h1
       obtain ⟨n1, n2⟩ := inB_iff.1 h3
       refine ⟨⟨by omega, hu, n1, n2, ?_, q2⟩, inB_iff.1 h4, inB_iff.1 h5⟩
       have : s.hs.length ≤ (cutF s.hs).length + 1 := by
        unfold cutF
        cases headF s.hs <;> simp <;> omega
       omega
      ·simp [h1, h2, h3, h4, h5, h6] at h
 ·simp [h1] at h
/-! comparing equals -/
theorem f19_refl {k : Nat} (hk : 0 < k) (l : List Int) (K : Bool → Option R) : f19 k l l K = K true := by
 rw [f19_def]
 obtain ⟨k, rfl⟩ := succ_of hk
 simp only [f19d, beq_self_eq_true]
/-! what a tick leaves -/
end Go.Proofs.Ytoepnomdklhhlaa.PM
/- Plain laws of receivers: what lacks, what is judged. -/
set_option linter.unusedSimpArgs false
set_option linter.unusedVariables false
namespace Go.Proofs.Ytoepnomdklhhlaa.PM
open Go Go.Proofs.Ytoepnomdklhhlaa.Bt
variable {R : Type}

/-! what a list lacks -/
def preF : Int → List Rg → List Rg
 | _, [] => []
 | a, x :: l => (if x.1 > a then [(a, (x.1, ()))] else []) ++ preF x.2.1 l
def lastT : Int → List Rg → Int
 | a, [] => a
 | _, x :: l => lastT x.2.1 l
def holesF (l : List Rg) (e : Int) : List Rg := preF 0 l ++ if lastT 0 l < e then [(lastT 0 l, (e, ()))] else []
theorem preF_len : ∀ (a : Int) (l : List Rg), (preF a l).length ≤ l.length
 | _, [] => by simp [preF]
 | a, x :: l => by
   have := preF_len x.2.1 l
   simp only [preF, List.length_append, List.length_cons]
   split <;> simp <;> omega
theorem holesF_len (l : List Rg) (e : Int) : (holesF l e).length ≤ l.length + 1 := by
 have := preF_len 0 l
 unfold holesF
 split <;> simp <;> omega
theorem f49_loop (k : Nat) (x0 : Int → List Rg → Option R) (e : Int) (l : List Rg) (hl : l.length ≤ 1000000) : ∀ (d f i : Nat) (a : Int) (o : List Rg), i + d = l.length → d < f → o.length ≤ i →
  f49_0d k x0 e l (l.length : Int) f a (i : Int) o = x0 (lastT a (l.drop i)) (o ++ preF a (l.drop i)) := by
 intro d
 induction d with
 | zero =>
   intro f i a o hi hf ho
   obtain ⟨f, rfl⟩ := succ_of hf
   have h1 : decide ((i : Int) < (l.length : Int)) = false := by simp only [decide_eq_false_iff_not]; omega
   simp only [f49_0d, f49_0b, h1, cond_false]
   rw [List.drop_of_length_le (by omega)]
   simp [lastT, preF]
 | succ d ih =>
   intro f i a o hi hf ho
   obtain ⟨f, rfl⟩ := succ_of hf
   have h1 : decide ((i : Int) < (l.length : Int)) = true := by simp only [decide_eq_true_eq]; omega
   have h0 : decide ((0 : Int) ≤ (i : Int)) = true := by simp
   have hw : IntKind.i64.wrap ((i : Int) + 1) = ((i + 1 : Nat) : Int) := by rw [wi (by omega) (by omega)]; omega
   have hli : i < l.length := by omega
   have hg : l.getD (Int.toNat (i : Int)) (0, (0, ())) = l[i] := getD_in hli
   simp only [f49_0d, f49_0b, hg, h1, h0, cond_true, Bool.and_self, hw, f49_1000007_def, f49_1000007d]
   rw [List.drop_eq_getElem_cons hli]
   simp only [lastT, preF]
   have hL : decide (o.length + ([((a, ((l[i]).1, ())) : Rg)]).length ≤ LIM 16) = true := by rw [LIM16]; simp only [decide_eq_true_eq, List.length_singleton]; omega
   by_cases q : (l[i]).1 > a
   ·simp only [q, decide_true, cond_true, hL, if_true]
    rw [ih f (i + 1) _ _ (by omega) (by omega) (by simp; omega), List.append_assoc]
   ·simp only [q, decide_false, cond_false, if_false, List.nil_append]
    exact ih f (i + 1) _ _ (by omega) (by omega) (by omega)
theorem f49_eq {k : Nat} {l : List Rg} (hk : l.length + 2 < k) (hl : l.length ≤ 1000000) (e : Int) (K : List Rg → Option R) : f49 k l e K = K (holesF l e) := by
 rw [f49_def]
 obtain ⟨k, rfl⟩ := succ_of hk
 simp only [f49d, f49_0_def]
 refine (f49_loop k _ e l hl l.length k 0 0 [] (by omega) (by omega) (by simp)).trans ?_
 have := preF_len 0 l
 have hL : decide ((preF 0 l).length + ([((lastT 0 l, (e, ())) : Rg)]).length ≤ LIM 16) = true := by rw [LIM16]; simp only [decide_eq_true_eq, List.length_singleton]; omega
 simp only [f49_1000011_def, f49_1000011d, List.drop_zero, List.nil_append, holesF, hL, cond_true]
 by_cases q : lastT 0 l < e <;> simp [q]
/-! lists in order -/
def Srt (lim : Int) : Int → List Rg → Prop
 | _, [] => True
 | a, x :: l => a ≤ x.1 ∧ x.1 < x.2.1 ∧ x.2.1 ≤ lim ∧ Srt lim x.2.1 l
theorem rgF_srt {lim : Int} : ∀ {p : Option Int} {l : List Rg}, rgF lim p l = 0 → Srt lim (p.getD 0) l
 | _, [], _ => trivial
 | p, y :: l, h => by
   simp only [rgF] at h
   by_cases q1 : y.1 < 0
   ·simp [q1] at h
   by_cases q2 : y.2.1 > lim
   ·simp [q1, q2] at h
   by_cases q3 : y.2.1 ≤ y.1
   ·simp [q1, q2, q3] at h
   cases p with
   | none => exact ⟨by show (0 : Int) ≤ y.1; omega, by omega, by omega, rgF_srt (p := some y.2.1) (by simpa [q1, q2, q3] using h)⟩
   | some e =>
     by_cases q4 : y.1 ≤ e
     ·simp [q1, q2, q3, q4] at h
     ·exact ⟨by show e ≤ y.1; omega, by omega, by omega, rgF_srt (p := some y.2.1) (by simpa [q1, q2, q3, q4] using h)⟩
theorem lastT_bounds {lim : Int} : ∀ {a : Int} {l : List Rg}, Srt lim a l → a ≤ lastT a l ∧ (a ≤ lim → lastT a l ≤ lim)
 | a, [], _ => ⟨Int.le_refl _, id⟩
 | a, x :: l, ⟨h1, h2, h3, h4⟩ => by
   have := lastT_bounds h4
   simp only [lastT]
   exact ⟨by omega, fun _ => this.2 h3⟩
theorem srt_low {lim : Int} : ∀ {a : Int} {l : List Rg}, Srt lim a l → ∀ x ∈ l, a ≤ x.1
 | _, [], _, x, hx => by cases hx
 | a, y :: l, ⟨h1, h2, h3, h4⟩, x, hx => by
   rcases List.mem_cons.1 hx with rfl | hx
   ·exact h1
   ·have := srt_low h4 x hx; omega
def inR (l : List Rg) (j : Int) : Prop := ∃ x ∈ l, x.1 ≤ j ∧ j < x.2.1
theorem preF_mem {lim : Int} : ∀ {a : Int} {l : List Rg}, Srt lim a l → ∀ j, inR (preF a l) j ↔ (a ≤ j ∧ j < lastT a l ∧ ¬ inR l j)
 | a, [], _, j => by
   simp only [preF, lastT, inR]
   constructor
   ·rintro ⟨x, hx, _⟩; cases hx
   ·rintro ⟨h1, h2, _⟩; omega
 | a, x :: l, ⟨h1, h2, h3, h4⟩, j => by
   have ih := preF_mem h4 j
   have hb := (lastT_bounds h4).1
   have hlow := srt_low h4
   simp only [preF, lastT]
   constructor
   ·rintro ⟨y, hy, hj⟩
    rcases List.mem_append.1 hy with hy | hy
    ·split at hy
     ·rw [List.mem_singleton] at hy
      subst hy
      have hj1 : a ≤ j := hj.1
      have hj2 : j < x.1 := hj.2
      refine ⟨hj1, by omega, ?_⟩
      rintro ⟨z, hz, hz1, hz2⟩
      rcases List.mem_cons.1 hz with rfl | hz
      ·omega
      ·have := hlow z hz; omega
     ·cases hy
    ·obtain ⟨g1, g2, g3⟩ := ih.1 ⟨y, hy, hj⟩
     refine ⟨by omega, g2, ?_⟩
     rintro ⟨z, hz, hz1, hz2⟩
     rcases List.mem_cons.1 hz with rfl | hz
     ·omega
     ·exact g3 ⟨z, hz, hz1, hz2⟩
   ·rintro ⟨g1, g2, g3⟩
    by_cases q : j < x.1
    ·refine ⟨(a, (x.1, ())), List.mem_append.2 (Or.inl ?_), g1, q⟩
     rw [if_pos (show x.1 > a by omega)]; simp
    ·have q2 : x.2.1 ≤ j := by
      by_cases q2 : x.2.1 ≤ j
      ·exact q2
      ·exact absurd ⟨x, by simp, by omega, by omega⟩ g3
     obtain ⟨y, hy, hj⟩ := ih.2 ⟨q2, g2, fun ⟨z, hz, hz'⟩ => g3 ⟨z, by simp [hz], hz'⟩⟩
     exact ⟨y, List.mem_append.2 (Or.inr hy), hj⟩
theorem preF_rg {lim : Int} : ∀ {a : Int} {l : List Rg}, Srt lim a l → ∀ h ∈ preF a l, a ≤ h.1 ∧ h.1 < h.2.1 ∧ h.2.1 ≤ lastT a l
 | a, [], _, h, hh => by cases hh
 | a, x :: l, ⟨h1, h2, h3, h4⟩, h, hh => by
   have hb := (lastT_bounds h4).1
   simp only [preF] at hh
   simp only [lastT]
   rcases List.mem_append.1 hh with hh | hh
   ·split at hh
    ·rename_i q
     rw [List.mem_singleton] at hh
     subst hh
     exact ⟨Int.le_refl _, q, by show x.1 ≤ _; omega⟩
    ·cases hh
   ·have := preF_rg h4 h hh
    omega
/-! bytes out of what is had -/
def insB (l : List Rg) (j : Int) : Bool := l.any fun x => decide (x.1 ≤ j) && decide (j < x.2.1)
theorem insB_iff {l : List Rg} {j : Int} : insB l j = true ↔ inR l j := by simp [insB, inR]
def badF (hv : List Rg) : List Int → Nat → Bool
 | [], _ => false
 | b :: l, i => (decide (b ≠ 0) && !insB hv i) || badF hv l (i + 1)
theorem badF_iff {hv : List Rg} : ∀ {l : List Int} {i : Nat}, badF hv l i = true ↔ ∃ j, ∃ h : j < l.length, l[j] ≠ 0 ∧ ¬ inR hv ((i + j : Nat) : Int)
 | [], i => by simp [badF]
 | b :: l, i => by
   have hI : (!insB hv (i : Int)) = true ↔ ¬ inR hv (i : Int) := by rw [← insB_iff]; simp
   simp only [badF, Bool.or_eq_true, Bool.and_eq_true, decide_eq_true_eq, badF_iff (l := l), hI]
   constructor
   ·rintro (h | ⟨j, hj, h1, h2⟩)
    ·exact ⟨0, by simp, by simpa using h⟩
    ·exact ⟨j + 1, by simp; omega, by simpa using h1, by rwa [show i + (j + 1) = i + 1 + j by omega]⟩
   ·rintro ⟨j, hj, h1, h2⟩
    cases j with
    | zero => exact Or.inl ⟨by simpa using h1, by simpa using h2⟩
    | succ j => exact Or.inr ⟨j, by simp at hj; omega, by simpa using h1, by rwa [show i + 1 + j = i + (j + 1) by omega]⟩
end Go.Proofs.Ytoepnomdklhhlaa.PM
/- Plain laws of receivers: checks and ticks. -/
set_option linter.unusedSimpArgs false
set_option linter.unusedVariables false
namespace Go.Proofs.Ytoepnomdklhhlaa.PM
open Go Go.Proofs.Ytoepnomdklhhlaa.Bt
variable {R : Type}

structure Rv where
 st : Int
 id : Int
 nm : ByteArray
 dat : List Int
 hv : List Rg
 sz : Int
 sum : Int
 wt : Int
 tr : Int
def zR : Rv := ⟨0, 0, ⟨#[]⟩, [], [], 0, 0, 0, 0⟩
theorem lastT_getD : ∀ (a : Int) (l : List Rg), l ≠ [] → lastT a l = (l.getD (l.length - 1) (0, (0, ()))).2.1
 | a, [], h => absurd rfl h
 | a, [x], _ => rfl
 | a, x :: y :: l, _ => by
   have := lastT_getD x.2.1 (y :: l) (by simp)
   simp only [lastT] at this ⊢
   rw [this]
   simp
def stB (q2 w0 s1 q0 e l0 t0 h0 : Bool) : Bool := (q2 && (w0 || s1)) || (!q2 && !w0) || (q0 && !(e && l0 && s1 && t0)) || (q2 && !e && h0)
def formV (r : Rv) : Int := if (r.dat.length : Int) ≠ lastT 0 r.hv then 3 else if badF r.hv r.dat 0 = true then 3 else if r.sz = -1 ∧ (r.sum ≠ 0 ∨ emp r.nm = false) then 3 else 0
noncomputable def chkRecv (r : Rv) : Int :=
 if inB r.id 0 65535 = false then 1 else if inB r.st 0 4 = false then 4 else if emp r.nm = false ∧ nameOk r.nm = false then 5
 else if inB r.sz (-1) 100000 = false then 1 else if inB r.sum 0 4294967295 = false then 1 else if inB r.wt 0 1000000 = false then 1 else if inB r.tr 0 50 = false then 1
 else if chkRgs r.hv (if r.sz = -1 then 100000 else r.sz) ≠ 0 then chkRgs r.hv (if r.sz = -1 then 100000 else r.sz)
 else if formV r ≠ 0 then formV r
 else if stB (decide (r.st = 2)) (decide (r.wt = 0)) (decide (r.sz = -1)) (decide (r.st = 0)) (emp r.nm) (decide (r.dat.length = 0)) (decide (r.tr = 0)) (decide ((holesF r.hv r.sz).length = 0)) = true then 11 else 0
theorem chkRgs_srt {l : List Rg} {lim : Int} (h : chkRgs l lim = 0) : Srt lim 0 l := by
 unfold chkRgs at h
 by_cases h1 : inB lim 0 100000 = false
 ·simp [h1] at h
 ·by_cases h2 : 2000 < l.length
  ·simp [h1, h2] at h
  ·simp only [h1, h2, if_false] at h
   exact rgF_srt (p := none) h
theorem f40_eq {k : Nat} (r : Rv) (hl : r.hv.length ≤ 1000000) (hk : r.hv.length + 4 < k) (K : List Rg → Option R) : f40 k r.st r.id r.nm r.dat r.hv r.sz r.sum r.wt r.tr K = K (holesF r.hv r.sz) := by
 rw [f40_def]
 obtain ⟨k, rfl⟩ := succ_of hk
 simp only [f40d, f49_eq (show r.hv.length + 2 < k by omega) hl]
def lackF (r : Rv) : List Rg := bif emp r.nm then (-1, (0, ())) :: holesF r.hv r.sz else holesF r.hv r.sz
end Go.Proofs.Ytoepnomdklhhlaa.PM
/- Plain laws of receivers: ticks. -/
set_option linter.unusedSimpArgs false
set_option linter.unusedVariables false
namespace Go.Proofs.Ytoepnomdklhhlaa.PM
open Go Go.Proofs.Ytoepnomdklhhlaa.Bt
variable {R : Type}

theorem f63_eq {k : Nat} (hk : 0 < k) {n : Int} (h0 : 0 ≤ n) (h1 : n ≤ 1000000000) (K : List Rg → Option R) : f63 k n K = K [] := by
 rw [f63_def]
 obtain ⟨k, rfl⟩ := succ_of hk
 have hd : decide (n < 0) = false := by simp only [decide_eq_false_iff_not]; omega
 simp only [f63d, f63_1000002_def, f63_1000002d, hd, cond_false, f63_1000005_def, f63_1000005d, Int.sub_zero]
 rw [wi (by omega) (by omega)]
 by_cases h : n > 0
 ·have h2 : decide ((List.replicate n.toNat ((0, (0, ())) : Rg)).length ≤ LIM 16) = true := by rw [LIM16]; simp only [decide_eq_true_eq, List.length_replicate]; omega
  have h3 : decide (0 ≤ n) = true := by simp only [decide_eq_true_eq]; omega
  have h4 : decide (0 ≤ ((List.replicate n.toNat ((0, (0, ())) : Rg)).length : Int)) = true := by simp only [decide_eq_true_eq]; omega
  simp only [h, h2, h3, h4, decide_true, cond_true, Bool.and_self, List.take_zero]
 ·simp only [h, decide_false, cond_false]
theorem f58_eq {k : Nat} (hk : 5 < k) (a b : List Rg) (ha : a.length ≤ 100000) (hb : b.length ≤ 100000) (K : List Rg → Option R) : f58 k [a, b] K = K (a ++ b) := by
 rw [f58_def]
 obtain ⟨k, rfl⟩ := succ_of hk
 obtain ⟨k, rfl⟩ := succ_of (show 2 < k by omega)
 obtain ⟨k, rfl⟩ := succ_of (show 1 < k by omega)
 obtain ⟨k, rfl⟩ := succ_of (show 0 < k by omega)
 have w0 : IntKind.i64.wrap (0 + (a.length : Int)) = (a.length : Int) := by rw [wi (by omega) (by omega)]; omega
 have w1 : IntKind.i64.wrap ((a.length : Int) + (b.length : Int)) = (a.length : Int) + (b.length : Int) := wi (by omega) (by omega)
 have n0 : decide ((a.length : Int) < 0) = false := by simp only [decide_eq_false_iff_not]; omega
 have n1 : decide ((a.length : Int) + (b.length : Int) < 0) = false := by simp only [decide_eq_false_iff_not]; omega
 have i1 : IntKind.i64.wrap (0 + 1) = 1 := by decide
 have i2 : IntKind.i64.wrap (1 + 1) = 2 := by decide
 have l1 : decide (([] : List Rg).length + a.length ≤ LIM 16) = true := by rw [LIM16]; simp only [decide_eq_true_eq, List.length_nil]; omega
 have l2 : decide (a.length + b.length ≤ LIM 16) = true := by rw [LIM16]; simp only [decide_eq_true_eq]; omega
 simp only [f58d, f58_0_def, f58_2_def, f58_1000007_def, f58_1000007d, f58_0d, f58_0b, f58_2d, f58_2b, List.length_cons, List.length_nil, i1, i2]
 simp only [show decide ((0 : Int) < ((0 + 1 + 1 : Nat) : Int)) = true from by decide, show decide ((1 : Int) < ((0 + 1 + 1 : Nat) : Int)) = true from by decide, show decide ((2 : Int) < ((0 + 1 + 1 : Nat) : Int)) = false from by decide,
  show decide ((0 : Int) ≤ 0) = true from by decide, show decide ((0 : Int) ≤ 1) = true from by decide, Bool.and_self, cond_true, cond_false, Int.toNat_zero, Int.toNat_one, List.getD_cons_zero, List.getD_cons_succ, w0, n0, w1, n1]
 rw [f63_eq (show 0 < k + 1 + 1 + 1 by omega) (by omega) (by omega)]
 simp only [List.nil_append, l1, l2, cond_true, List.length_nil]
 simp only [List.length_nil] at l1
 simp only [l1, cond_true]
theorem f51_eq {k : Nat} (hk : 8 < k) (l : List Rg) (hl : l.length ≤ 100000) (b : Bool) (K : List Rg → Option R) : f51 k l b K = K (bif b then (-1, (0, ())) :: l else l) := by
 rw [f51_def]
 obtain ⟨k, rfl⟩ := succ_of hk
 cases b
 ·rfl
 ·simp only [f51d, cond_true, f53_def]
  rw [show f53d (R := R) k = fun K => f53d k K from rfl]
  obtain ⟨k, rfl⟩ := succ_of (show 0 < k by omega)
  simp only [f53d]
  rw [f58_eq (show 5 < k + 1 by omega) _ _ (by simp) hl]
  rfl
theorem holes_cut {lim : Int} {l : List Rg} (hs : Srt lim 0 l) (e : Int) : headF (holesF l e) = false := by
 have hb := (lastT_bounds hs).1
 have : ∀ x ∈ holesF l e, 0 ≤ x.1 := by
  intro x hx
  unfold holesF at hx
  rcases List.mem_append.1 hx with hx | hx
  ·exact (preF_rg hs x hx).1
  ·split at hx
   ·rw [List.mem_singleton] at hx; subst hx; exact hb
   ·cases hx
 cases h : holesF l e with
 | nil => rfl
 | cons x r =>
   rw [h] at this
   have := this x (by simp)
   have h1 : ¬ x.1 = -1 := by omega
   simp [headF, h1]
theorem cutF_lack {lim : Int} (r : Rv) (hs : Srt lim 0 r.hv) : cutF (lackF r) = holesF r.hv r.sz := by
 have h := holes_cut hs r.sz
 unfold lackF
 rcases Bool.eq_false_or_eq_true (emp r.nm) with he | he
 ·rw [he]; simp [cutF, headF]
 ·rw [he]; simp [cutF, h]

/-! a tick of a receiver -/
def holeL (r : Rv) : Lt := (4, (r.id, (⟨#[]⟩, (0, (0, (0, ([], (lackF r, (false, ())))))))))
def stopR (r : Rv) : Lt := (6, (r.id, (⟨#[]⟩, (0, (0, (0, ([], ([], (false, ())))))))))
def tickR (wait most : Int) (r : Rv) : (Rv × List Lt) × Int :=
 if r.st ≠ 2 then ((r, []), 0) else if r.wt - 1 > 0 then (({ r with wt := r.wt - 1 }, []), 0)
 else if r.tr ≥ most then (({ r with st := 4, wt := r.wt - 1 }, [stopR r]), 0)
 else if 2000 < (holesF r.hv r.sz).length then ((zR, []), 2) else (({ r with wt := wait, tr := r.tr + 1 }, [holeL r]), 0)
def apRF (K : Int → Int → ByteArray → List Int → List Rg → Int → Int → Int → Int → Int → List Lt → Option R) (x : (Rv × List Lt) × Int) : Option R :=
 K x.1.1.st x.1.1.id x.1.1.nm x.1.1.dat x.1.1.hv x.1.1.sz x.1.1.sum x.1.1.wt x.1.1.tr x.2 x.1.2
structure RInv (r : Rv) : Prop where
 hl : r.hv.length ≤ 2000
 dl : (r.dat.length : Int) ≤ 100000
 wt : 0 ≤ r.wt ∧ r.wt ≤ 1000000
 tr : 0 ≤ r.tr ∧ r.tr ≤ 50
 sz : -1 ≤ r.sz
 asked : r.st = 2 → r.sz ≠ -1
 srt : ∃ lim, Srt lim 0 r.hv
theorem chkRecv_ok {r : Rv} (h : chkRecv r = 0) : RInv r := by
 unfold chkRecv at h
 by_cases h1 : inB r.id 0 65535 = false
 ·simp [h1] at h
 by_cases h2 : inB r.st 0 4 = false
 ·simp [h1, h2] at h
 by_cases h3 : emp r.nm = false ∧ nameOk r.nm = false
 ·simp [h1, h2, h3] at h
 by_cases h4 : inB r.sz (-1) 100000 = false
 ·simp [h1, h2, h3, h4] at h
 by_cases h5 : inB r.sum 0 4294967295 = false
 ·simp [h1, h2, h3, h4, h5] at h
 by_cases h6 : inB r.wt 0 1000000 = false
 ·simp [h1, h2, h3, h4, h5, h6] at h
 by_cases h7 : inB r.tr 0 50 = false
 ·simp [h1, h2, h3, h4, h5, h6, h7] at h
 simp only [h1, h2, h3, h4, h5, h6, h7, if_false] at h
 by_cases h8 : chkRgs r.hv (if r.sz = -1 then 100000 else r.sz) = 0
 ·simp only [h8, ne_eq, not_true_eq_false, if_false] at h
  by_cases h9 : formV r = 0
  ·simp only [h9, ne_eq, not_true_eq_false, if_false] at h
   obtain ⟨c1, c2, c3⟩ := chkRgs_ok h8
   have hs := chkRgs_srt h8
   have hdl : (r.dat.length : Int) = lastT 0 r.hv := by
    unfold formV at h9
    by_cases q : (r.dat.length : Int) = lastT 0 r.hv
    ·exact q
    ·simp [q] at h9
   have := (lastT_bounds hs).2 c1.1
   refine ⟨c2, by omega, inB_iff.1 (by simpa using h6), inB_iff.1 (by simpa using h7), (inB_iff.1 (show inB r.sz (-1) 100000 = true by simpa using h4)).1, ?_, ⟨_, hs⟩⟩
   intro e1 e2
   simp [e1, e2, stB] at h
  ·simp [h9] at h
 ·simp [h8] at h
theorem f42_eq {k : Nat} (r : Rv) (hl : r.hv.length ≤ 2000) (hk : r.hv.length + 20 < k) (K : List Rg → Int → Option R) :
  f42 k r.st r.id r.nm r.dat r.hv r.sz r.sum r.wt r.tr K = if 2000 < (holesF r.hv r.sz).length then K [] 2 else K (lackF r) 0 := by
 rw [f42_def]
 obtain ⟨k, rfl⟩ := succ_of hk
 have hh := holesF_len r.hv r.sz
 have es : (r.nm.toList == (⟨#[]⟩ : ByteArray).toList) = emp r.nm := rfl
 have hd : decide (((holesF r.hv r.sz).length : Int) > 2000) = decide (2000 < (holesF r.hv r.sz).length) := by rw [Bool.eq_iff_iff]; simp only [decide_eq_true_eq]; omega
 simp only [f42d, f40_eq r (show r.hv.length ≤ 1000000 by omega) (show r.hv.length + 4 < k by omega), hd, es, f51_eq (show 8 < k by omega) (holesF r.hv r.sz) (by omega), lackF]
 by_cases h : 2000 < (holesF r.hv r.sz).length <;> simp [h]
theorem f33_eq {k : Nat} (a b c wait most : Int) (r : Rv) (hi : RInv r) (hk : 2100 < k) (K : Int → Int → ByteArray → List Int → List Rg → Int → Int → Int → Int → Int → List Lt → Option R) :
  f33 k a b c wait most r.st r.id r.nm r.dat r.hv r.sz r.sum r.wt r.tr K = apRF K (tickR wait most r) := by
 rw [f33_def]
 obtain ⟨k, rfl⟩ := succ_of hk
 have hl := hi.hl
 obtain ⟨w0, w1⟩ := hi.wt
 obtain ⟨t0, t1⟩ := hi.tr
 simp only [f33d, bne_dec, tickR]
 rw [wi (n := r.wt - 1) (by omega) (by omega), wi (n := r.tr + 1) (by omega) (by omega)]
 by_cases e : r.st = 2
 ·by_cases e1 : r.wt - 1 > 0
  ·simp only [e, e1, decide_true, Bool.not_true, cond_false, cond_true, ne_eq, not_true_eq_false, if_true, if_false]; simp only [apRF, e]
  ·by_cases e2 : r.tr ≥ most
   ·simp only [e, e1, e2, decide_true, decide_false, Bool.not_true, cond_false, cond_true, ne_eq, not_true_eq_false, if_true, if_false]; simp only [apRF, stopR]
   ·simp only [e, e1, e2, decide_true, decide_false, Bool.not_true, cond_false, ne_eq, not_true_eq_false, if_false]
    have h112 := f42_eq (R := R) (k := k) ⟨2, r.id, r.nm, r.dat, r.hv, r.sz, r.sum, r.wt - 1, r.tr⟩ hl (by show r.hv.length + 20 < k; omega)
    simp only at h112
    rw [h112]
    have hq : lackF ⟨2, r.id, r.nm, r.dat, r.hv, r.sz, r.sum, r.wt - 1, r.tr⟩ = lackF r := rfl
    by_cases e3 : 2000 < (holesF r.hv r.sz).length
    ·simp [e3, apRF, zR]
    ·simp [e3, apRF, holeL, hq, e]
 ·simp [e, apRF]
theorem lackF_len (r : Rv) : (lackF r).length ≤ (holesF r.hv r.sz).length + 1 := by unfold lackF; cases emp r.nm <;> simp
end Go.Proofs.Ytoepnomdklhhlaa.PM

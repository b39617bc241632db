import Derived.Test.YtecnlienmpdlaaaGreatPT
import Derived.Test.YtecnlienmpdlaaaGreatBt
set_option linter.unusedSimpArgs false
set_option linter.unusedVariables false
namespace Go.Proofs.YtecnlienmpdlaaaGreat.PM
open Go Go.Proofs.YtecnlienmpdlaaaGreat.Bt
noncomputable section
variable {R : Type}
theorem Q9 {k n : Nat} (h : n < k) : ∃ j, k = j + 1 := ⟨k - 1, by omega⟩
theorem Qhr (a b : Int) : (a == b) = decide (a = b) := rfl
theorem Q1g (a b : Int) : (a != b) = !decide (a = b) := rfl
theorem wi {n : Int} (h0 : -9223372036854775808 ≤ n) (h1 : n < 9223372036854775808) : IntKind.i64.wrap n = n := by rw [IntKind.wrap_i64]; omega
theorem Qp4 {a b : Int} (h : 0 ≤ a) : Int.tdiv a b = a / b := Int.tdiv_eq_ediv_of_nonneg h
def inB (a lo hi : Int) : Bool := decide (lo ≤ a) && decide (a ≤ hi)
theorem Q22 {a lo hi : Int} : inB a lo hi = true ↔ lo ≤ a ∧ a ≤ hi := by simp [inB]
theorem LIM1 : LIM 1 = 140737488355328 := by simp [LIM]
theorem LIM8 : LIM 8 = 17592186044416 := by simp [LIM]
theorem Q1s {l : LI} {i : Nat} (h : i < l.length) : l.getD i 0 = l[i] := by rw [List.getD_eq_getElem?_getD, List.getElem?_eq_getElem h]; rfl
theorem Qs7 {k : Nat} (hk : 0 < k) (a lo hi : Int) (K : Bool → Oq R) : f63 k a lo hi K = K (inB a lo hi) := by
 rw [Q11z]
 obtain ⟨k, rfl⟩ := Q9 hk
 simp only [f63d, inB]
 cases decide (lo ≤ a) <;> rfl
theorem Qkt {k : Nat} (hk : 0 < k) (a lo hi : Int) (K : Bool → Oq R) : f66 k a lo hi K = K (inB a lo hi) := by
 rw [Q123]
 obtain ⟨k, rfl⟩ := Q9 hk
 simp only [f66d, inB, ge_iff_le]
 cases decide (lo ≤ a) <;> rfl
def Q21 (b p s : Int) : Int := if inB b 1 64 = false then 1 else if inB p 1 64 = false then 1 else if inB s 64 1024 = false then 1 else if b * p * s > 262144 then 2 else 0
theorem Qo {b p s : Int} (hb : 1 ≤ b ∧ b ≤ 64) (hp : 1 ≤ p ∧ p ≤ 64) (hs : 64 ≤ s ∧ s ≤ 1024) : 1 ≤ b * p ∧ b * p ≤ 4096 ∧ 64 ≤ b * p * s ∧ b * p * s ≤ 4194304 := by
 have h1 : b * p ≤ 64 * 64 := Int.mul_le_mul hb.2 hp.2 (by omega) (by omega)
 have h2 : 1 * 1 ≤ b * p := Int.mul_le_mul hb.1 hp.1 (by omega) (by omega)
 have h3 : b * p * s ≤ 4096 * 1024 := Int.mul_le_mul (by omega) hs.2 (by omega) (by omega)
 have h4 : 1 * 64 ≤ b * p * s := Int.mul_le_mul (by omega) hs.1 (by omega) (by omega)
 omega
theorem Q9a {b p s : Int} (hb : inB b 1 64 = true) (hp : inB p 1 64 = true) (hs : inB s 64 1024 = true) : IntKind.i64.wrap (IntKind.i64.wrap (b * p) * s) = b * p * s := by
 obtain ⟨h1, h2, h3, h4⟩ := Qo (Q22.1 hb) (Q22.1 hp) (Q22.1 hs)
 rw [wi (n := b * p) (by omega) (by omega), wi (by omega) (by omega)]
theorem Q1g1 {k : Nat} (hk : 1 < k) (b p s : Int) (d w x : LI) (K : Int → Oq R) : f62 k b p s d w x K = K (Q21 b p s) := by
 rw [Q11y]
 obtain ⟨k, rfl⟩ := Q9 (show 0 < k by omega)
 simp only [f62d, Qs7 (show 0 < k by omega), Q21]
 cases hb : inB b 1 64
 ·simp
 ·cases hp : inB p 1 64
  ·simp
  ·cases hs : inB s 64 1024
   ·simp
   ·rw [Q9a hb hp hs]
    by_cases h : b * p * s > 262144 <;> simp [h]
theorem Q1g3 {k : Nat} (hk : 1 < k) (b p s : Int) (d w x : LI) (K : Int → Oq R) : f65 k b p s d w x K = K (Q21 b p s) := by
 rw [Q122]
 obtain ⟨k, rfl⟩ := Q9 (show 0 < k by omega)
 simp only [f65d, Qkt (show 0 < k by omega), Q21]
 cases hb : inB b 1 64
 ·simp
 ·cases hp : inB p 1 64
  ·simp
  ·cases hs : inB s 64 1024
   ·simp
   ·rw [Q9a hb hp hs]
    by_cases h : b * p * s > 262144 <;> simp [h]
theorem Qj6 {b p s : Int} (h : Q21 b p s = 0) : (1 ≤ b ∧ b ≤ 64) ∧ (1 ≤ p ∧ p ≤ 64) ∧ (64 ≤ s ∧ s ≤ 1024) ∧ b * p * s ≤ 262144 ∧ 64 ≤ b * p * s ∧ IntKind.i64.wrap (IntKind.i64.wrap (b * p) * s) = b * p * s := by
 unfold Q21 at h
 cases hb : inB b 1 64
 ·simp [hb] at h
 ·cases hp : inB p 1 64
  ·simp [hb, hp] at h
  ·cases hs : inB s 64 1024
   ·simp [hb, hp, hs] at h
   ·have := Qo (Q22.1 hb) (Q22.1 hp) (Q22.1 hs)
    by_cases hm : b * p * s > 262144
    ·simp [hb, hp, hs, hm] at h
    ·exact ⟨Q22.1 hb, Q22.1 hp, Q22.1 hs, by omega, by omega, Q9a hb hp hs⟩
def badI (hi : Int) (l : LI) : Nat → Nat → Int
 | 0, _ => 0
 | d + 1, i => if inB (l.getD i 0) 0 hi = false then 1 else if 0 < i ∧ l.getD i 0 ≤ l.getD (i - 1) 0 then 8 else badI hi l d (i + 1)
theorem Qpn (k : Nat) (hk : 0 < k) (K : Int → Oq R) (x : Oq R) (l : LI) (hl : l.length < 4611686018427387904) (b p s : Int) (hb : 1 ≤ b ∧ b ≤ 64) (d w : LI) : ∀ (n f i : Nat), i + n = l.length → n < f →
  Qaa k K x l (l.length : Int) b p s d w l f (i : Int) = if badI (b - 1) l n i = 0 then x else K (badI (b - 1) l n i)
 | n, 0, i, _, h => absurd h (Nat.not_lt_zero _)
 | 0, f + 1, i, hi, _ => by
   have h1 : decide ((i : Int) < (l.length : Int)) = false := dF (by omega)
   simp only [Qaa, Q120, h1, cond_false, badI, if_true]
 | n + 1, f + 1, i, hi, hf => by
   have h1 : decide ((i : Int) < (l.length : Int)) = true := dT (by omega)
   have h0 : decide ((0 : Int) ≤ (i : Int)) = true := by simp
   have hw : IntKind.i64.wrap ((i : Int) + 1) = ((i + 1 : Nat) : Int) := wj (by omega)
   have ih := Qpn k hk K x l hl b p s hb d w n f (i + 1) (by omega) (by omega)
   simp only [Qaa, Q120, h1, h0, cond_true, Bool.and_self, Int.toNat_natCast, hw, Qs7 hk]
   rw [wi (n := b - 1) (by omega) (by omega)]
   cases hin : inB (l.getD i 0) 0 (b - 1)
   ·have e : badI (b - 1) l (n + 1) i = 1 := by simp only [badI, hin, if_true]
    rw [e]
    simp
   ·have e : badI (b - 1) l (n + 1) i = if 0 < i ∧ l.getD i 0 ≤ l.getD (i - 1) 0 then 8 else badI (b - 1) l n (i + 1) := by simp only [badI, hin, Bool.true_eq_false, if_false]
    simp only [Bool.not_true, cond_false]
    by_cases hp : 0 < i
    ·have g1 : decide ((i : Int) > 0) = true := dT (by omega)
     have e1 : IntKind.i64.wrap ((i : Int) - 1) = ((i - 1 : Nat) : Int) := wj (by omega)
     have g2 : decide ((0 : Int) ≤ ((i - 1 : Nat) : Int)) = true := by simp
     have g3 : decide (((i - 1 : Nat) : Int) < (l.length : Int)) = true := dT (by omega)
     simp only [g1, e1, g2, g3, BEq.rfl, cond_true, Bool.and_self, Int.toNat_natCast]
     by_cases hle : l.getD i 0 ≤ l.getD (i - 1) 0
     ·have e' : badI (b - 1) l (n + 1) i = 8 := by rw [e, if_pos ⟨hp, hle⟩]
      rw [e']
      simp only [hle, decide_true, cond_true]
      rfl
     ·have e' : badI (b - 1) l (n + 1) i = badI (b - 1) l n (i + 1) := by rw [e, if_neg (fun h => hle h.2)]
      rw [e']
      simp only [hle, decide_false, cond_false]
      exact ih
    ·have g1 : decide ((i : Int) > 0) = false := dF (by omega)
     have e' : badI (b - 1) l (n + 1) i = badI (b - 1) l n (i + 1) := by rw [e, if_neg (fun h => hp h.1)]
     rw [e']
     simp only [g1, show (false == true) = false from rfl, cond_false]
     exact ih
theorem Q1g2 {k : Nat} {b p s : Int} (hb : 1 ≤ b ∧ b ≤ 64) (d w x : LI) (hk : x.length + 2 < k) (hl : x.length < 4611686018427387904) (K : Int → Oq R) : f64 k b p s d w x K = K (badI (b - 1) x x.length 0) := by
 rw [Q121]
 obtain ⟨k, rfl⟩ := Q9 (show 0 < k by omega)
 simp only [f64d, Qks]
 refine (Qpn k (by omega) K (K 0) x hl b p s hb d w x.length k 0 (by omega) (by omega)).trans ?_
 split
 ·rename_i h; rw [h]
 ·rfl
theorem Qjn (k : Nat) (hk : 0 < k) (K : Int → Oq R) (x : Oq R) (l : LI) (hl : l.length < 4611686018427387904) (b p s : Int) (hb : 1 ≤ b ∧ b ≤ 64) (d w : LI) : ∀ (n f i : Nat), i + n = l.length → n < f →
  Qa5 k K x b p s d w l f (i : Int) = if badI (b - 1) l n i = 0 then x else K (badI (b - 1) l n i)
 | n, 0, i, _, h => absurd h (Nat.not_lt_zero _)
 | 0, f + 1, i, hi, _ => by
   have h1 : decide ((i : Int) < (l.length : Int)) = false := dF (by omega)
   simp only [Qa5, Q11b, h1, cond_false, badI, if_true]
 | n + 1, f + 1, i, hi, hf => by
   have h1 : decide ((i : Int) < (l.length : Int)) = true := dT (by omega)
   have h0 : decide ((0 : Int) ≤ (i : Int)) = true := by simp
   have hw : IntKind.i64.wrap ((i : Int) + 1) = ((i + 1 : Nat) : Int) := wj (by omega)
   have ih := Qjn k hk K x l hl b p s hb d w n f (i + 1) (by omega) (by omega)
   simp only [Qa5, Q11b, h1, h0, cond_true, Bool.and_self, Int.toNat_natCast, hw, Qkt hk]
   rw [wi (n := b - 1) (by omega) (by omega)]
   cases hin : inB (l.getD i 0) 0 (b - 1)
   ·have e : badI (b - 1) l (n + 1) i = 1 := by simp only [badI, hin, if_true]
    rw [e]
    simp
   ·have e : badI (b - 1) l (n + 1) i = if 0 < i ∧ l.getD i 0 ≤ l.getD (i - 1) 0 then 8 else badI (b - 1) l n (i + 1) := by simp only [badI, hin, Bool.true_eq_false, if_false]
    simp only [Bool.not_true, cond_false]
    by_cases hp : 0 < i
    ·have g1 : decide ((i : Int) > 0) = true := dT (by omega)
     have e1 : IntKind.i64.wrap ((i : Int) - 1) = ((i - 1 : Nat) : Int) := wj (by omega)
     have g2 : decide ((0 : Int) ≤ ((i - 1 : Nat) : Int)) = true := by simp
     have g3 : decide (((i - 1 : Nat) : Int) < (l.length : Int)) = true := dT (by omega)
     simp only [g1, e1, g2, g3, BEq.rfl, cond_true, Bool.and_self, Int.toNat_natCast]
     by_cases hle : l.getD i 0 ≤ l.getD (i - 1) 0
     ·have e' : badI (b - 1) l (n + 1) i = 8 := by rw [e, if_pos ⟨hp, hle⟩]
      rw [e']
      simp only [hle, decide_true, cond_true]
      rfl
     ·have e' : badI (b - 1) l (n + 1) i = badI (b - 1) l n (i + 1) := by rw [e, if_neg (fun h => hle h.2)]
      rw [e']
      simp only [hle, decide_false, cond_false]
      exact ih
    ·have g1 : decide ((i : Int) > 0) = false := dF (by omega)
     have e' : badI (b - 1) l (n + 1) i = badI (b - 1) l n (i + 1) := by rw [e, if_neg (fun h => hp h.1)]
     rw [e']
     simp only [g1, show (false == true) = false from rfl, cond_false]
     exact ih
def wearB (l : LI) : Bool := l.all fun n => inB n 0 1000000
theorem Qn2 (k : Nat) (hk : 0 < k) (K : Int → Oq R) (x : Oq R) (l : LI) (hl : l.length < 4611686018427387904) (b p s : Int) (d w y : LI) : ∀ (n f i : Nat), i + n = l.length → n < f →
  Qa3 k K x l (l.length : Int) b p s d w y f (i : Int) = if wearB (l.drop i) then x else K 1
 | n, 0, i, _, h => absurd h (Nat.not_lt_zero _)
 | 0, f + 1, i, hi, _ => by
   have h1 : decide ((i : Int) < (l.length : Int)) = false := dF (by omega)
   simp only [Qa3, Q117, h1, cond_false]
   rw [List.drop_of_length_le (by omega)]
   rfl
 | n + 1, f + 1, i, hi, hf => by
   have h1 : decide ((i : Int) < (l.length : Int)) = true := dT (by omega)
   have h0 : decide ((0 : Int) ≤ (i : Int)) = true := by simp
   have hw : IntKind.i64.wrap ((i : Int) + 1) = ((i + 1 : Nat) : Int) := wj (by omega)
   have ih := Qn2 k hk K x l hl b p s d w y n f (i + 1) (by omega) (by omega)
   have hli : i < l.length := by omega
   simp only [Qa3, Q117, h1, h0, cond_true, Bool.and_self, Int.toNat_natCast, hw, Qs7 hk, Q1s hli]
   rw [List.drop_eq_getElem_cons hli]
   cases hin : inB l[i] 0 1000000
   ·have e : wearB (l[i] :: l.drop (i + 1)) = false := by unfold wearB; rw [List.all_cons, hin]; rfl
    rw [e]
    simp
   ·have e : wearB (l[i] :: l.drop (i + 1)) = wearB (l.drop (i + 1)) := by unfold wearB; rw [List.all_cons, hin]; rfl
    rw [e]
    simp only [Bool.not_true, cond_false]
    exact ih
theorem Qg9 (k : Nat) (hk : 0 < k) (K : Int → Oq R) (x : Oq R) (l : LI) (hl : l.length < 4611686018427387904) (b p s : Int) (d y : LI) : ∀ (n f i : Nat), i + n = l.length → n < f →
  Qa4 k K x b p s d l y f (i : Int) = if wearB (l.drop i) then x else K 1
 | n, 0, i, _, h => absurd h (Nat.not_lt_zero _)
 | 0, f + 1, i, hi, _ => by
   have h1 : decide ((i : Int) < (l.length : Int)) = false := dF (by omega)
   simp only [Qa4, Q11a, h1, cond_false]
   rw [List.drop_of_length_le (by omega)]
   rfl
 | n + 1, f + 1, i, hi, hf => by
   have h1 : decide ((i : Int) < (l.length : Int)) = true := dT (by omega)
   have h0 : decide ((0 : Int) ≤ (i : Int)) = true := by simp
   have hw : IntKind.i64.wrap ((i : Int) + 1) = ((i + 1 : Nat) : Int) := wj (by omega)
   have ih := Qg9 k hk K x l hl b p s d y n f (i + 1) (by omega) (by omega)
   have hli : i < l.length := by omega
   simp only [Qa4, Q11a, h1, h0, cond_true, Bool.and_self, Int.toNat_natCast, hw, Qkt hk, Q1s hli]
   rw [List.drop_eq_getElem_cons hli]
   cases hin : inB l[i] 0 1000000
   ·have e : wearB (l[i] :: l.drop (i + 1)) = false := by unfold wearB; rw [List.all_cons, hin]; rfl
    rw [e]
    simp
   ·have e : wearB (l[i] :: l.drop (i + 1)) = wearB (l.drop (i + 1)) := by unfold wearB; rw [List.all_cons, hin]; rfl
    rw [e]
    simp only [Bool.not_true, cond_false]
    exact ih
def Qi (b p s : Int) (d w x : LI) : Int :=
 if Q21 b p s ≠ 0 then Q21 b p s else if (d.length : Int) ≠ b * p * s then 3 else if (w.length : Int) ≠ b then 3 else if wearB w = false then 1 else badI (b - 1) x x.length 0
theorem Qs3 {k : Nat} (b p s : Int) (d w x : LI) (hk : w.length + x.length + 5 < k) (hw : w.length < 4611686018427387904) (hx : x.length < 4611686018427387904) (K : Int → Oq R) : f19 k b p s d w x K = K (Qi b p s d w x) := by
 rw [Q118]
 obtain ⟨k, rfl⟩ := Q9 (show 0 < k by omega)
 simp only [f19d, Q1g1 (show 1 < k by omega), Q1g, Qi]
 by_cases h : Q21 b p s = 0
 ·obtain ⟨g1, g2, g3, g4, g5, g6⟩ := Qj6 h
  rw [g6]
  by_cases hd : (d.length : Int) = b * p * s
  ·by_cases hwb : (w.length : Int) = b
   ·simp only [h, hd, hwb, decide_true, Bool.not_true, cond_false, BEq.rfl, cond_true, ne_eq, not_true_eq_false, if_false, Qkj]
    have := Qn2 k (by omega) K (f64 k b p s d w x (fun r => K r)) w hw b p s d w x w.length k 0 (by omega) (by omega)
    rw [hwb] at this
    refine this.trans ?_
    rw [List.drop_zero]
    cases wearB w
    ·simp
    ·simp only [if_true, Bool.true_eq_false, if_false]
     exact Q1g2 g1 d w x (by omega) hx _
   ·simp [h, hd, hwb]
  ·simp [h, hd]
 ·simp [h]
theorem Qs5 {k : Nat} (b p s : Int) (d w x : LI) (hk : w.length + x.length + 5 < k) (hw : w.length < 4611686018427387904) (hx : x.length < 4611686018427387904) (K : Int → Oq R) : f20 k b p s d w x K = K (Qi b p s d w x) := by
 rw [Q11c]
 obtain ⟨k, rfl⟩ := Q9 (show 0 < k by omega)
 simp only [f20d, Q1g3 (show 1 < k by omega), Q1g, Qi]
 by_cases h : Q21 b p s = 0
 ·obtain ⟨g1, g2, g3, g4, g5, g6⟩ := Qj6 h
  rw [g6]
  by_cases hd : (d.length : Int) = b * p * s
  ·by_cases hwb : (w.length : Int) = b
   ·simp only [h, hd, hwb, decide_true, Bool.not_true, cond_false, BEq.rfl, cond_true, ne_eq, not_true_eq_false, if_false, Qkk]
    refine (Qg9 k (by omega) K _ w hw b p s d x w.length k 0 (by omega) (by omega)).trans ?_
    rw [List.drop_zero]
    cases wearB w
    ·simp
    ·simp only [if_true, Bool.true_eq_false, if_false, Qkl]
     refine (Qjn k (by omega) K (K 0) x hx b p s g1 d w x.length k 0 (by omega) (by omega)).trans ?_
     split
     ·rename_i h; rw [h]
     ·rfl
   ·simp [h, hd, hwb]
  ·simp [h, hd]
 ·simp [h]
theorem Q1gc {k : Nat} (hk : 0 < k) (l : LI) (hl : l.length ≤ 140737488355328) (K : LI → Oq R) : f83 k l K = K l := by
 rw [Q12v]
 obtain ⟨k, rfl⟩ := Q9 hk
 simp only [f83d, LIM1, hl, decide_true, cond_true]
theorem Q1fx {k : Nat} (hk : 0 < k) (a b : LI) (K : Bool → Oq R) : f34 k a b K = K ((strOf a).toList == (strOf b).toList) := by
 rw [Q11j]
 obtain ⟨k, rfl⟩ := Q9 hk
 rfl
def bitS (s : Int) : Int := bif decide (s ≥ 32768) then bits .xor .i64 (Int.tmod (IntKind.i64.wrap (s * 2)) 65536) 4129 else Int.tmod (IntKind.i64.wrap (s * 2)) 65536
def bitsS : Nat → Int → Int
 | 0, s => s
 | n + 1, s => bitsS n (bitS s)
def sumS : LI → Int → Int
 | [], s => s
 | c :: l, s => sumS l (bitsS 8 (bits .xor .i64 s (IntKind.i64.wrap (IntKind.i64.wrap c * 256))))
theorem eight1 (k : Nat) (x : Int → Oq R) (a : LI) (b c : Int) : ∀ (d f : Nat) (s : Int) (j : Nat), j + d = 8 → d < f → Q4y k x a b c f s (j : Int) = x (bitsS d s)
 | d, 0, s, j, _, h => absurd h (Nat.not_lt_zero _)
 | 0, f + 1, s, j, hj, _ => by
   have h1 : decide ((j : Int) < 8) = false := dF (by omega)
   simp only [Q4y, Qnv, h1, cond_false, bitsS]
 | d + 1, f + 1, s, j, hj, hf => by
   have h1 : decide ((j : Int) < 8) = true := dT (by omega)
   have hw : IntKind.i64.wrap ((j : Int) + 1) = ((j + 1 : Nat) : Int) := wj (by omega)
   simp only [Q4y, Qnv, h1, cond_true, hw, Q9t, Qbr, bitsS, bitS]
   cases decide (s ≥ 32768) <;> exact eight1 k x a b c d f _ (j + 1) (by omega) (by omega)
theorem eight2 (k : Nat) (x : Int → Oq R) (a : LI) (b : Int) : ∀ (d f : Nat) (s : Int) (j : Nat), j + d = 8 → d < f → Q4r k x a b f s (j : Int) = x (bitsS d s)
 | d, 0, s, j, _, h => absurd h (Nat.not_lt_zero _)
 | 0, f + 1, s, j, hj, _ => by
   have h1 : decide ((j : Int) < 8) = false := dF (by omega)
   simp only [Q4r, Qnp, h1, cond_false, bitsS]
 | d + 1, f + 1, s, j, hj, hf => by
   have h1 : decide ((j : Int) < 8) = true := dT (by omega)
   have hw : IntKind.i64.wrap ((j : Int) + 1) = ((j + 1 : Nat) : Int) := wj (by omega)
   simp only [Q4r, Qnp, h1, cond_true, hw, Q9q, Qbp, bitsS, bitS]
   cases decide (s ≥ 32768) <;> exact eight2 k x a b d f _ (j + 1) (by omega) (by omega)
theorem Qmr (k : Nat) (hk : 8 < k) (x : Int → Oq R) (l : LI) (hl : l.length < 4611686018427387904) : ∀ (d f i : Nat) (s : Int), i + d = l.length → d < f → Q4x k x l (l.length : Int) f s (i : Int) = x (sumS (l.drop i) s)
 | d, 0, i, s, _, h => absurd h (Nat.not_lt_zero _)
 | 0, f + 1, i, s, hi, _ => by
   have h1 : decide ((i : Int) < (l.length : Int)) = false := dF (by omega)
   simp only [Q4x, Qnu, h1, cond_false]
   rw [List.drop_of_length_le (by omega)]
   rfl
 | d + 1, f + 1, i, s, hi, hf => by
   have h1 : decide ((i : Int) < (l.length : Int)) = true := dT (by omega)
   have h0 : decide ((0 : Int) ≤ (i : Int)) = true := by simp
   have hw : IntKind.i64.wrap ((i : Int) + 1) = ((i + 1 : Nat) : Int) := wj (by omega)
   have hli : i < l.length := by omega
   simp only [Q4x, Qnu, h1, h0, cond_true, Bool.and_self, Int.toNat_natCast, hw, Q1s hli, Qej]
   refine (eight1 k _ _ _ _ 8 k _ 0 (by omega) (by omega)).trans ?_
   rw [List.drop_eq_getElem_cons hli]
   exact Qmr k hk x l hl d f (i + 1) _ (by omega) (by omega)
theorem Qms (k : Nat) (hk : 8 < k) (x : Int → Oq R) (l : LI) (hl : l.length < 4611686018427387904) : ∀ (d f i : Nat) (s : Int), i + d = l.length → d < f → Q4q k x l f s (i : Int) = x (sumS (l.drop i) s)
 | d, 0, i, s, _, h => absurd h (Nat.not_lt_zero _)
 | 0, f + 1, i, s, hi, _ => by
   have h1 : decide ((i : Int) < (l.length : Int)) = false := dF (by omega)
   simp only [Q4q, Qno, h1, cond_false]
   rw [List.drop_of_length_le (by omega)]
   rfl
 | d + 1, f + 1, i, s, hi, hf => by
   have h1 : decide ((i : Int) < (l.length : Int)) = true := dT (by omega)
   have h0 : decide ((0 : Int) ≤ (i : Int)) = true := by simp
   have hw : IntKind.i64.wrap ((i : Int) + 1) = ((i + 1 : Nat) : Int) := wj (by omega)
   have hli : i < l.length := by omega
   simp only [Q4q, Qno, h1, h0, cond_true, Bool.and_self, Int.toNat_natCast, hw, Q1s hli, Qec]
   refine (eight2 k _ _ _ 8 k _ 0 (by omega) (by omega)).trans ?_
   rw [List.drop_eq_getElem_cons hli]
   exact Qms k hk x l hl d f (i + 1) _ (by omega) (by omega)
theorem Q10m {k : Nat} (l : LI) (hk : l.length + 10 < k) (hl : l.length < 4611686018427387904) (K : Int → Oq R) : f111 k l K = K (sumS l 65535) := by
 rw [Qr7]
 obtain ⟨k, rfl⟩ := Q9 (show 0 < k by omega)
 simp only [f111d, Qei]
 exact (Qmr k (by omega) _ l hl l.length k 0 65535 (by omega) (by omega)).trans (by simp)
theorem Q1bt {k : Nat} (l : LI) (hk : l.length + 10 < k) (hl : l.length < 4611686018427387904) (K : Int → Oq R) : f105 k l K = K (sumS l 65535) := by
 rw [Qr2]
 obtain ⟨k, rfl⟩ := Q9 (show 0 < k by omega)
 simp only [f105d, Qeb]
 exact (Qms k (by omega) _ l hl l.length k 0 65535 (by omega) (by omega)).trans (by simp)
def sumF (l : LI) : Int × Int := if l.length > 262144 then (0, 2) else (sumS l 65535, 0)
theorem Q1g0 {k : Nat} (l : LI) (hk : l.length + 12 < k) (hl : l.length < 4611686018427387904) (K : Int → Int → Oq R) : f59 k l K = K (sumF l).1 (sumF l).2 := by
 rw [Q11v]
 obtain ⟨k, rfl⟩ := Q9 (show 0 < k by omega)
 simp only [f59d, Q10m l (show _ < k by omega) hl, sumF]
 by_cases h : l.length > 262144
 ·have : decide ((l.length : Int) > 262144) = true := dT (by omega)
  simp [h, this]
 ·have : decide ((l.length : Int) > 262144) = false := dF (by omega)
  simp [h, this]
theorem Q150 : sumS [49, 50, 51, 52, 53, 54, 55, 56, 57] 65535 = 10673 := by decide +kernel
theorem Q1fr {k : Nat} (hk : 30 < k) (K : Bool → Oq R) : f16 k K = K true := by
 rw [Q112]
 obtain ⟨k, rfl⟩ := Q9 (show 0 < k by omega)
 simp only [f16d]
 rw [Q1g0 _ (by simp; omega) (by simp)]
 simp [sumF, Q150]
theorem u64i {n : Int} (h0 : 0 ≤ n) (h1 : n < 18446744073709551616) : IntKind.u64.wrap n = n := wraps_u64 n h0 (by omega)
theorem low32 {n : Int} (h0 : 0 ≤ n) (h1 : n < 4294967296) : bits .and .u64 n 4294967295 = n := by
 have := bits_mask .u64 64 (by decide) wraps_u64 32 (by omega) n h0 (by omega)
 rw [show (4294967295 : Int) = 2 ^ 32 - 1 by decide, this]
 omega
theorem high32 {n : Int} (h0 : 0 ≤ n) (h1 : n < 4294967296) : Int.fdiv n (2 ^ 32) = 0 := by
 rw [Int.fdiv_eq_ediv_of_nonneg _ (by decide)]
 omega
theorem Q15z {k : Nat} (hk : 1 < k) {n : Int} (h0 : 0 ≤ n) (h1 : n < 4294967296) (K : Int → Int → Oq R) : f128 k 1 n K = K 0 n := by
 rw [Qrj]
 obtain ⟨k, rfl⟩ := Q9 (show 0 < k by omega)
 simp only [f128d, Qrt]
 obtain ⟨k, rfl⟩ := Q9 (show 0 < k by omega)
 simp only [f145d, low32 h0 h1, high32 h0 h1, high32 (n := 1) (by decide) (by decide), low32 (n := 1) (by decide) (by decide)]
 simp only [Int.zero_mul, Int.mul_zero, Int.one_mul, u64i h0 (show n < 18446744073709551616 by omega), high32 h0 h1, u64i (n := 0) (by decide) (by decide), Int.add_zero, Int.zero_add, low32 (n := 0) (by decide) (by decide), high32 (n := 0) (by decide) (by decide)]
theorem Qst (k : Nat) (x0 : LI → Oq R) (N : Nat) (hN : N ≤ 4000000) : ∀ (d f n : Nat), n + d = N → 1 ≤ n → d < f →
  Q88 k x0 f (n : Int) (List.replicate n 255 ++ List.replicate d 0) = x0 (List.replicate N 255)
 | d, 0, n, _, _, h => absurd h (Nat.not_lt_zero _)
 | 0, f + 1, n, hn, _, _ => by
   have h1 : decide ((n : Int) < ((List.replicate n (255 : Int) ++ List.replicate 0 0).length : Int)) = false := by simp
   simp only [Q88, Qs9, h1, cond_false]
   rw [List.replicate_zero, List.append_nil]
   congr 2
 | d + 1, f + 1, n, hn, h1n, hf => by
   have hlen : (List.replicate n (255 : Int) ++ List.replicate (d + 1) 0).length = N := by simp; omega
   have h1 : decide ((n : Int) < (N : Int)) = true := dT (by omega)
   have h2 : decide ((n : Int) ≤ (N : Int)) = true := dT (by omega)
   have h0 : decide ((0 : Int) ≤ (n : Int)) = true := by simp
   have ht : ((List.replicate n (255 : Int) ++ List.replicate (d + 1) 0).drop 0).take n = List.replicate n 255 := by
    rw [List.drop_zero]
    exact List.take_left' (by simp)
   have hc : min n (N - n) = min n (d + 1) := by omega
   simp only [Q88, Qs9, hlen, h1, h2, h0, cond_true, Bool.and_self, Int.toNat_natCast, ht, List.length_replicate, hc]
   obtain ⟨c, ec⟩ : ∃ c, min n (d + 1) = c := ⟨_, rfl⟩
   rw [ec]
   have hc1 : 1 ≤ c := by omega
   have hcn : c ≤ n := by omega
   have hcd : c ≤ d + 1 := by omega
   have hw : IntKind.i64.wrap ((n : Int) + ((c : Nat) : Int)) = ((n + c : Nat) : Int) := wj (by omega)
   have hs : splice (List.replicate n (255 : Int) ++ List.replicate (d + 1) 0) n ((List.replicate n (255 : Int)).take c) = List.replicate (n + c) 255 ++ List.replicate (d + 1 - c) 0 := by
    unfold splice
    have e1 : (List.replicate n (255 : Int) ++ List.replicate (d + 1) 0).take n = List.replicate n 255 := List.take_left' (by simp)
    have e2 : (List.replicate n (255 : Int)).take c = List.replicate c 255 := by rw [List.take_replicate]; congr 1; omega
    have e3 : (List.replicate n (255 : Int) ++ List.replicate (d + 1) 0).drop (n + (List.replicate c (255 : Int)).length) = List.replicate (d + 1 - c) 0 := by
     rw [List.length_replicate, ← List.drop_drop, List.drop_left' (by simp), List.drop_replicate]
    rw [e2, e1, e3]
    simp
   rw [hw, hs]
   exact Qst k x0 N hN (d + 1 - c) f (n + c) (by omega) (by omega) (by omega)
theorem Q1ge {k : Nat} {n : Nat} (hk : n + 10 < k) (hn : n ≤ 4000000) (K : LI → Oq R) : f88 k [255] (n : Int) K = K (List.replicate n 255) := by
 rw [Q12x]
 obtain ⟨k, rfl⟩ := Q9 (show 0 < k by omega)
 have e0 : decide ((n : Int) < 0) = false := dF (by omega)
 have e1 : IntKind.u64.wrap ((([255] : LI).length : Int)) = 1 := by simp [IntKind.wrap, IntKind.bits, IntKind.signed]
 have e2 : IntKind.u64.wrap (n : Int) = (n : Int) := u64i (by omega) (by omega)
 have e3 : decide ((n : Int) > 9223372036854775807) = false := dF (by omega)
 have e4 : IntKind.i64.wrap (n : Int) = (n : Int) := wi (by omega) (by omega)
 have e5 : decide ((0 : Int) ≤ (n : Int)) = true := by simp
 have e6 : decide ((n : Int) ≤ (LIM 1 : Int)) = true := by rw [LIM1]; simp only [decide_eq_true_eq]; omega
 have e7 : decide ((n : Int) ≤ (n : Int)) = true := by simp
 simp only [f88d, Qc6, Qim, Qc7, Qio, e0, e1, e2, cond_false, Q15z (show 1 < k by omega) (show (0 : Int) ≤ (n : Int) by omega) (show (n : Int) < 4294967296 by omega), show decide ((0 : Int) > 0) = false by decide, BEq.rfl, cond_true, e3, e4, e5, e6, e7, Bool.and_self, Int.toNat_natCast, List.length_replicate, Qlb]
 cases n with
 | zero =>
   obtain ⟨k, rfl⟩ := Q9 (show 0 < k by omega)
   have hm : min ([255] : LI).length 0 = 0 := by simp
   have hs : splice (List.replicate 0 (0 : Int)) 0 (([255] : LI).take 0) = [] := by simp [splice]
   simp only [hm, hs, Q88, Qs9]
   simp
 | succ m =>
   have hm : min ([255] : LI).length (m + 1) = 1 := by simp
   have hs : splice (List.replicate (m + 1) (0 : Int)) 0 (([255] : LI).take 1) = List.replicate 1 255 ++ List.replicate m 0 := by
    simp [splice]
   rw [hm, hs]
   exact Qst k (fun y0_0_0 => K y0_0_0) (m + 1) hn m k 1 (by omega) (by omega) (by omega)
theorem Qlc (k : Nat) (x0 : LI → Oq R) (N : Nat) (hN : N ≤ 4000000) : ∀ (d f n : Nat), n + d = N → d < f →
  Q4p k x0 (N : Int) f (n : Int) (List.replicate n 255 ++ List.replicate d 0) = x0 (List.replicate N 255)
 | d, 0, n, _, h => absurd h (Nat.not_lt_zero _)
 | 0, f + 1, n, hn, _ => by
   have h1 : decide ((n : Int) < (N : Int)) = false := dF (by omega)
   simp only [Q4p, Qnn, h1, cond_false]
   rw [List.replicate_zero, List.append_nil]
   congr 2
 | d + 1, f + 1, n, hn, hf => by
   have hlen : (List.replicate n (255 : Int) ++ List.replicate (d + 1) 0).length = N := by simp; omega
   have h1 : decide ((n : Int) < (N : Int)) = true := dT (by omega)
   have h0 : decide ((0 : Int) ≤ (n : Int)) = true := by simp
   have hw : IntKind.i64.wrap ((n : Int) + 1) = ((n + 1 : Nat) : Int) := wj (by omega)
   have hs : (List.replicate n (255 : Int) ++ List.replicate (d + 1) 0).set n 255 = List.replicate (n + 1) 255 ++ List.replicate d 0 := by
    rw [List.set_append, if_neg (by simp), List.length_replicate, Nat.sub_self, List.replicate_succ (n := d), List.set_cons_zero, List.replicate_succ' (n := n)]
    simp
   simp only [Q4p, Qnn, hlen, h1, h0, cond_true, Bool.and_self, Int.toNat_natCast, hw, hs]
   exact Qlc k x0 N hN d f (n + 1) (by omega) (by omega)
theorem Q1bs {k : Nat} {n : Nat} (hk : n + 10 < k) (hn : n ≤ 4000000) (K : LI → Oq R) : f104 k (n : Int) K = K (List.replicate n 255) := by
 rw [Qr1]
 obtain ⟨k, rfl⟩ := Q9 (show 0 < k by omega)
 have e5 : decide ((0 : Int) ≤ (n : Int)) = true := by simp
 have e6 : decide ((n : Int) ≤ (LIM 1 : Int)) = true := by rw [LIM1]; simp only [decide_eq_true_eq]; omega
 have e7 : decide ((n : Int) ≤ (n : Int)) = true := by simp
 simp only [f104d, e5, e6, e7, Bool.and_self, cond_true, Int.toNat_natCast, Qea]
 have := Qlc k (fun y0_0_0 => K y0_0_0) n hn n k 0 (by omega) (by omega)
 rw [List.replicate_zero, List.nil_append] at this
 exact this
def B (l : LI) : Prop := ∀ x ∈ l, 0 ≤ x ∧ x < 256
theorem B.app {l m : LI} (h : B l) (h' : B m) : B (l ++ m) := fun x hx => (List.mem_append.1 hx).elim (h x) (h' x)
theorem B.getD {l : LI} (h : B l) (i : Nat) : 0 ≤ l.getD i 0 ∧ l.getD i 0 < 256 := by
 by_cases hi : i < l.length
 ·rw [Q1s hi]; exact h _ (List.getElem_mem hi)
 ·rw [List.getD_eq_getElem?_getD, List.getElem?_eq_none (by omega)]; exact ⟨by decide, by decide⟩
theorem B.bytesOf (s : BA) : B (bytesOf s) := fun x hx => by
 unfold PM.bytesOf at hx
 obtain ⟨b, _, rfl⟩ := List.mem_map.1 hx
 have := b.toNat_lt
 omega
theorem Q71 (n : Int) : 0 ≤ IntKind.u8.wrap n ∧ IntKind.u8.wrap n < 256 := by
 simp [IntKind.wrap, IntKind.bits, IntKind.signed]; omega
theorem Q17 (s : BA) : (bytesOf s).length = s.size := by unfold bytesOf; simp
theorem Q103 (s : BA) : (s.toList == (⟨#[]⟩ : BA).toList) = decide (s.size = 0) := by
 rw [ByteArray.toList_eq, ByteArray.toList_eq]
 have h : s.data.toList.length = s.size := by simp
 cases hl : s.data.toList with
 | nil =>
   rw [hl] at h
   have : s.size = 0 := by simpa using h.symm
   simp [this]
 | cons x l =>
   rw [hl] at h
   have : s.size ≠ 0 := by simp at h; omega
   simp [this]
def okC (c : Int) : Bool := decide (33 ≤ c) && decide (c ≤ 126)
def nameB (s : BA) : Bool := decide (s.size ≠ 0) && decide (s.size ≤ 32) && (bytesOf s).all okC
theorem Qlx (k : Nat) (K : Bool → Oq R) (x : Oq R) (s : BA) (hs : s.size < 4611686018427387904) : ∀ (d f i : Nat), i + d = s.size → d < f →
  Q55 k K x s (s.size : Int) f (i : Int) = if ((bytesOf s).drop i).all okC then x else K false
 | d, 0, i, _, h => absurd h (Nat.not_lt_zero _)
 | 0, f + 1, i, hi, _ => by
   have h1 : decide ((i : Int) < (s.size : Int)) = false := dF (by omega)
   simp only [Q55, Qo1, h1, cond_false]
   rw [List.drop_of_length_le (by rw [Q17]; omega)]
   rfl
 | d + 1, f + 1, i, hi, hf => by
   have h1 : decide ((i : Int) < (s.size : Int)) = true := dT (by omega)
   have h0 : decide ((0 : Int) ≤ (i : Int)) = true := by simp
   have hw : IntKind.i64.wrap ((i : Int) + 1) = ((i + 1 : Nat) : Int) := wj (by omega)
   have hli : i < (bytesOf s).length := by rw [Q17]; omega
   have ih := Qlx k K x s hs d f (i + 1) (by omega) (by omega)
   simp only [Q55, Qo1, h1, h0, cond_true, Bool.and_self, Int.toNat_natCast, hw, Q1s hli]
   rw [List.drop_eq_getElem_cons hli]
   by_cases a : (bytesOf s)[i] < 33
   ·have e : ((bytesOf s)[i] :: (bytesOf s).drop (i + 1)).all okC = false := by
     rw [List.all_cons]
     have : okC (bytesOf s)[i] = false := by simp [okC]; omega
     rw [this]; rfl
    rw [e]
    simp [a]
   ·by_cases b : (bytesOf s)[i] > 126
    ·have e : ((bytesOf s)[i] :: (bytesOf s).drop (i + 1)).all okC = false := by
      rw [List.all_cons]
      have : okC (bytesOf s)[i] = false := by simp [okC]; omega
      rw [this]; rfl
     rw [e]
     simp [a, b]
    ·have e : ((bytesOf s)[i] :: (bytesOf s).drop (i + 1)).all okC = ((bytesOf s).drop (i + 1)).all okC := by
      rw [List.all_cons]
      have : okC (bytesOf s)[i] = true := by simp [okC]; omega
      rw [this]; rfl
     rw [e]
     simp only [a, b, decide_false, BEq.rfl, cond_true, cond_false]
     exact ih
theorem Qfk (k : Nat) (K : Bool → Oq R) (x : Oq R) (s : BA) (hs : s.size < 4611686018427387904) : ∀ (d f i : Nat), i + d = s.size → d < f →
  Qa8 k K x s f (i : Int) = if ((bytesOf s).drop i).all okC then x else K false
 | d, 0, i, _, h => absurd h (Nat.not_lt_zero _)
 | 0, f + 1, i, hi, _ => by
   have h1 : decide ((i : Int) < (s.size : Int)) = false := dF (by omega)
   simp only [Qa8, Q11n, h1, cond_false]
   rw [List.drop_of_length_le (by rw [Q17]; omega)]
   rfl
 | d + 1, f + 1, i, hi, hf => by
   have h1 : decide ((i : Int) < (s.size : Int)) = true := dT (by omega)
   have h0 : decide ((0 : Int) ≤ (i : Int)) = true := by simp
   have hw : IntKind.i64.wrap ((i : Int) + 1) = ((i + 1 : Nat) : Int) := wj (by omega)
   have hli : i < (bytesOf s).length := by rw [Q17]; omega
   have ih := Qfk k K x s hs d f (i + 1) (by omega) (by omega)
   simp only [Qa8, Q11n, h1, h0, cond_true, Bool.and_self, Int.toNat_natCast, hw, Q1s hli]
   rw [List.drop_eq_getElem_cons hli]
   by_cases a : (bytesOf s)[i] < 33
   ·have e : ((bytesOf s)[i] :: (bytesOf s).drop (i + 1)).all okC = false := by
     rw [List.all_cons]
     have : okC (bytesOf s)[i] = false := by simp [okC]; omega
     rw [this]; rfl
    rw [e]
    simp [a]
   ·by_cases b : (bytesOf s)[i] > 126
    ·have e : ((bytesOf s)[i] :: (bytesOf s).drop (i + 1)).all okC = false := by
      rw [List.all_cons]
      have : okC (bytesOf s)[i] = false := by simp [okC]; omega
      rw [this]; rfl
     rw [e]
     simp [a, b]
    ·have e : ((bytesOf s)[i] :: (bytesOf s).drop (i + 1)).all okC = ((bytesOf s).drop (i + 1)).all okC := by
      rw [List.all_cons]
      have : okC (bytesOf s)[i] = true := by simp [okC]; omega
      rw [this]; rfl
     rw [e]
     simp only [a, b, decide_false, BEq.rfl, cond_true, cond_false]
     exact ih
theorem Q1gf {k : Nat} (s : BA) (hk : s.size + 10 < k) (hs : s.size < 4611686018427387904) (K : Bool → Oq R) : f95 k s K = K (nameB s) := by
 rw [Q12z]
 obtain ⟨k, rfl⟩ := Q9 (show 0 < k by omega)
 simp only [f95d, Qrk]
 obtain ⟨k, rfl⟩ := Q9 (show 0 < k by omega)
 simp only [f130d, Q103, Qeo, nameB]
 have := fun K x => Qlx (R := R) k K x s hs s.size k 0 (by omega) (by omega)
 rw [show (((0 : Nat) : Int)) = 0 from rfl] at this
 rw [this, List.drop_zero]
 by_cases h0 : s.size = 0
 ·simp [h0]
 ·by_cases h40 : s.size ≤ 40
  ·have c40 : decide ((s.size : Int) > 40) = false := dF (by omega)
   simp only [h0, decide_false, BEq.rfl, cond_true, c40, cond_false]
   cases (bytesOf s).all okC
   ·simp
   ·by_cases h32 : s.size ≤ 32
    ·have : decide ((s.size : Int) ≤ 32) = true := dT (by omega)
     have e0 : decide (s.size ≠ 0) = true := decide_eq_true h0
     simp only [this, h32, e0, if_true, BEq.rfl, cond_true, decide_true, Bool.and_self]
    ·have : decide ((s.size : Int) ≤ 32) = false := dF (by omega)
     simp [this, h32]
  ·have c40 : decide ((s.size : Int) > 40) = true := dT (by omega)
   have h32 : ¬ s.size ≤ 32 := by omega
   simp [h0, c40, h32]
theorem Q1fy {k : Nat} (s : BA) (hk : s.size + 10 < k) (hs : s.size < 4611686018427387904) (K : Bool → Oq R) : f49 k s K = K (nameB s) := by
 rw [Q11o]
 obtain ⟨k, rfl⟩ := Q9 (show 0 < k by omega)
 simp only [f49d, Qko, nameB, Qkt (show 0 < k by omega)]
 have := fun K x => Qfk (R := R) k K x s hs s.size k 0 (by omega) (by omega)
 rw [show (((0 : Nat) : Int)) = 0 from rfl] at this
 rw [this, List.drop_zero]
 cases (bytesOf s).all okC
 ·simp
 ·simp only [if_true, Bool.and_true]
  congr 1
  unfold inB
  by_cases h0 : s.size = 0
  ·simp [h0]
  ·by_cases h32 : s.size ≤ 32
   ·have a : decide ((1 : Int) ≤ (s.size : Int)) = true := dT (by omega)
    have b : decide ((s.size : Int) ≤ 32) = true := dT (by omega)
    simp [a, b, h0, h32]
   ·have b : decide ((s.size : Int) ≤ 32) = false := dF (by omega)
    simp [b, h32]
theorem Qfi {s : BA} (h : nameB s = true) : 1 ≤ s.size ∧ s.size ≤ 32 := by
 simp only [nameB, Bool.and_eq_true, decide_eq_true_eq] at h
 omega
def headB (gen : Int) (gone : Bool) (name : BA) (index : Int) (last : Bool) (n : Int) : LI :=
 [IntKind.u8.wrap (Int.fdiv gen (2 ^ 24)), IntKind.u8.wrap (Int.fdiv gen (2 ^ 16)), IntKind.u8.wrap (Int.fdiv gen (2 ^ 8)), IntKind.u8.wrap gen, if gone then 2 else 1, IntKind.u8.wrap (name.size : Int), IntKind.u8.wrap (Int.fdiv index (2 ^ 8)), IntKind.u8.wrap index, IntKind.u8.wrap (Int.fdiv n (2 ^ 8)), IntKind.u8.wrap n, if last then 1 else 0, 0]
def innerB (gen : Int) (gone : Bool) (name : BA) (index : Int) (last : Bool) (bytes : LI) : LI := headB gen gone name index last (bytes.length : Int) ++ bytesOf name ++ bytes
def encB (ps gen : Int) (gone : Bool) (name : BA) (index : Int) (last : Bool) (bytes : LI) : LI :=
 innerB gen gone name index last bytes ++ List.replicate (ps - 3 - ((innerB gen gone name index last bytes).length : Int)).toNat 255
def encAll (ps gen : Int) (gone : Bool) (name : BA) (index : Int) (last : Bool) (bytes : LI) : LI :=
 encB ps gen gone name index last bytes ++ [IntKind.u8.wrap (Int.fdiv (sumS (encB ps gen gone name index last bytes) 65535) (2 ^ 8)), IntKind.u8.wrap (sumS (encB ps gen gone name index last bytes) 65535), 165]
def encErr (ps gen : Int) (gone : Bool) (name : BA) (index : Int) (last : Bool) (bytes : LI) : Int :=
 if inB ps 64 1024 = false then 1 else if inB gen 1 4000000000 = false then 1 else if nameB name = false then 5 else if inB index 0 65535 = false then 1
 else if (bytes.length : Int) > ps - 15 - name.size then 2 else if gone = true ∧ (0 < bytes.length ∨ index ≠ 0 ∨ last = false) then 3 else 0
theorem Qce (gen : Int) (gone : Bool) (name : BA) (index : Int) (last : Bool) (bytes : LI) : (innerB gen gone name index last bytes).length = 12 + name.size + bytes.length := by
 unfold innerB headB; simp [Q17]; omega
theorem Q104 {ps : Int} {gen : Int} {gone : Bool} {name : BA} {index : Int} {last : Bool} {bytes : LI} (h : (bytes.length : Int) ≤ ps - 15 - name.size) : ((encB ps gen gone name index last bytes).length : Int) = ps - 3 := by
 unfold encB; rw [List.length_append, List.length_replicate, Qce]; omega
theorem Q1bp {k : Nat} (ps gen : Int) (gone : Bool) (name : BA) (index : Int) (last : Bool) (bytes : LI) (hk : name.size + 3000 < k) (hs : name.size < 4611686018427387904) (K : Int → LI → Oq R) :
  f100 k ps gen gone name index last bytes K = K (encErr ps gen gone name index last bytes) (if encErr ps gen gone name index last bytes = 0 then encAll ps gen gone name index last bytes else []) := by
 rw [Qqx]
 obtain ⟨k, rfl⟩ := Q9 (show 0 < k by omega)
 simp only [f100d, Qs7 (show 0 < k by omega), Q1gf name (show _ < k by omega) hs]
 cases h1 : inB ps 64 1024
 ·have e : encErr ps gen gone name index last bytes = 1 := by simp only [encErr, h1, if_true]
  rw [e]; simp
 ·cases h2 : inB gen 1 4000000000
  ·have e : encErr ps gen gone name index last bytes = 1 := by simp only [encErr, h1, h2, if_true, Bool.true_eq_false, if_false]
   rw [e]; simp
  ·cases h3 : nameB name
   ·have e : encErr ps gen gone name index last bytes = 5 := by simp only [encErr, h1, h2, h3, if_true, Bool.true_eq_false, if_false]
    rw [e]; simp
   ·cases h4 : inB index 0 65535
    ·have e : encErr ps gen gone name index last bytes = 1 := by simp only [encErr, h1, h2, h3, h4, if_true, Bool.true_eq_false, if_false]
     rw [e]; simp
    ·obtain ⟨p1, p2⟩ := Q22.1 h1
     obtain ⟨n1, n2⟩ := Qfi h3
     rw [wi (n := ps - 15) (by omega) (by omega), wi (n := ps - 15 - name.size) (by omega) (by omega)]
     by_cases h5 : (bytes.length : Int) > ps - 15 - name.size
     ·have e : encErr ps gen gone name index last bytes = 2 := by simp only [encErr, h1, h2, h3, h4, Bool.true_eq_false, if_false]; rw [if_pos h5]
      rw [e]; simp [h5]
     ·have body : ∀ (a b : Int), a = (if gone then 2 else 1) → b = (if last then 1 else 0) → (bif decide (([IntKind.u8.wrap (Int.fdiv gen (2 ^ 24)), IntKind.u8.wrap (Int.fdiv gen (2 ^ 16)), IntKind.u8.wrap (Int.fdiv gen (2 ^ 8)), IntKind.u8.wrap gen, a, IntKind.u8.wrap (name.size : Int), IntKind.u8.wrap (Int.fdiv index (2 ^ 8)), IntKind.u8.wrap index, IntKind.u8.wrap (Int.fdiv (bytes.length : Int) (2 ^ 8)), IntKind.u8.wrap (bytes.length : Int), b, (0 : Int)] : LI).length + (bytesOf name).length ≤ LIM 1) then (bif decide ((([IntKind.u8.wrap (Int.fdiv gen (2 ^ 24)), IntKind.u8.wrap (Int.fdiv gen (2 ^ 16)), IntKind.u8.wrap (Int.fdiv gen (2 ^ 8)), IntKind.u8.wrap gen, a, IntKind.u8.wrap (name.size : Int), IntKind.u8.wrap (Int.fdiv index (2 ^ 8)), IntKind.u8.wrap index, IntKind.u8.wrap (Int.fdiv (bytes.length : Int) (2 ^ 8)), IntKind.u8.wrap (bytes.length : Int), b, (0 : Int)] : LI) ++ (bytesOf name)).length + bytes.length ≤ LIM 1) then (f88 k ([(255 : Int)] : LI) (IntKind.i64.wrap ((IntKind.i64.wrap (ps - (3 : Int))) - (((([IntKind.u8.wrap (Int.fdiv gen (2 ^ 24)), IntKind.u8.wrap (Int.fdiv gen (2 ^ 16)), IntKind.u8.wrap (Int.fdiv gen (2 ^ 8)), IntKind.u8.wrap gen, a, IntKind.u8.wrap (name.size : Int), IntKind.u8.wrap (Int.fdiv index (2 ^ 8)), IntKind.u8.wrap index, IntKind.u8.wrap (Int.fdiv (bytes.length : Int) (2 ^ 8)), IntKind.u8.wrap (bytes.length : Int), b, (0 : Int)] : LI) ++ (bytesOf name)) ++ bytes).length : Int))) (fun r1 => (bif decide (((([IntKind.u8.wrap (Int.fdiv gen (2 ^ 24)), IntKind.u8.wrap (Int.fdiv gen (2 ^ 16)), IntKind.u8.wrap (Int.fdiv gen (2 ^ 8)), IntKind.u8.wrap gen, a, IntKind.u8.wrap (name.size : Int), IntKind.u8.wrap (Int.fdiv index (2 ^ 8)), IntKind.u8.wrap index, IntKind.u8.wrap (Int.fdiv (bytes.length : Int) (2 ^ 8)), IntKind.u8.wrap (bytes.length : Int), b, (0 : Int)] : LI) ++ (bytesOf name)) ++ bytes).length + r1.length ≤ LIM 1) then (f111 k (((([IntKind.u8.wrap (Int.fdiv gen (2 ^ 24)), IntKind.u8.wrap (Int.fdiv gen (2 ^ 16)), IntKind.u8.wrap (Int.fdiv gen (2 ^ 8)), IntKind.u8.wrap gen, a, IntKind.u8.wrap (name.size : Int), IntKind.u8.wrap (Int.fdiv index (2 ^ 8)), IntKind.u8.wrap index, IntKind.u8.wrap (Int.fdiv (bytes.length : Int) (2 ^ 8)), IntKind.u8.wrap (bytes.length : Int), b, (0 : Int)] : LI) ++ (bytesOf name)) ++ bytes) ++ r1) (fun r2 => (bif decide ((((([IntKind.u8.wrap (Int.fdiv gen (2 ^ 24)), IntKind.u8.wrap (Int.fdiv gen (2 ^ 16)), IntKind.u8.wrap (Int.fdiv gen (2 ^ 8)), IntKind.u8.wrap gen, a, IntKind.u8.wrap (name.size : Int), IntKind.u8.wrap (Int.fdiv index (2 ^ 8)), IntKind.u8.wrap index, IntKind.u8.wrap (Int.fdiv (bytes.length : Int) (2 ^ 8)), IntKind.u8.wrap (bytes.length : Int), b, (0 : Int)] : LI) ++ (bytesOf name)) ++ bytes) ++ r1).length + ([IntKind.u8.wrap (Int.fdiv r2 (2 ^ 8)), IntKind.u8.wrap r2, (165 : Int)] : LI).length ≤ LIM 1) then (K (0 : Int) ((((([IntKind.u8.wrap (Int.fdiv gen (2 ^ 24)), IntKind.u8.wrap (Int.fdiv gen (2 ^ 16)), IntKind.u8.wrap (Int.fdiv gen (2 ^ 8)), IntKind.u8.wrap gen, a, IntKind.u8.wrap (name.size : Int), IntKind.u8.wrap (Int.fdiv index (2 ^ 8)), IntKind.u8.wrap index, IntKind.u8.wrap (Int.fdiv (bytes.length : Int) (2 ^ 8)), IntKind.u8.wrap (bytes.length : Int), b, (0 : Int)] : LI) ++ (bytesOf name)) ++ bytes) ++ r1) ++ ([IntKind.u8.wrap (Int.fdiv r2 (2 ^ 8)), IntKind.u8.wrap r2, (165 : Int)] : LI))) else none))) else none))) else none) else none)
        = K 0 (encAll ps gen gone name index last bytes) := by
       intro a b ha hb
       subst ha hb
       change (bif decide ((headB gen gone name index last (bytes.length : Int)).length + (bytesOf name).length ≤ LIM 1) then (bif decide ((headB gen gone name index last (bytes.length : Int) ++ bytesOf name).length + bytes.length ≤ LIM 1) then (f88 k ([(255 : Int)] : LI) (IntKind.i64.wrap ((IntKind.i64.wrap (ps - (3 : Int))) - ((innerB gen gone name index last bytes).length : Int))) (fun r1 => (bif decide ((innerB gen gone name index last bytes).length + r1.length ≤ LIM 1) then (f111 k (innerB gen gone name index last bytes ++ r1) (fun r2 => (bif decide ((innerB gen gone name index last bytes ++ r1).length + ([IntKind.u8.wrap (Int.fdiv r2 (2 ^ 8)), IntKind.u8.wrap r2, (165 : Int)] : LI).length ≤ LIM 1) then (K (0 : Int) ((innerB gen gone name index last bytes ++ r1) ++ ([IntKind.u8.wrap (Int.fdiv r2 (2 ^ 8)), IntKind.u8.wrap r2, (165 : Int)] : LI))) else none))) else none))) else none) else none) = _
       have hin := Qce gen gone name index last bytes
       have c1 : (headB gen gone name index last (bytes.length : Int)).length + (bytesOf name).length ≤ LIM 1 := by rw [LIM1, Q17]; simp [headB]; omega
       have c2 : (headB gen gone name index last (bytes.length : Int) ++ bytesOf name).length + bytes.length ≤ LIM 1 := by rw [LIM1, List.length_append, Q17]; simp [headB]; omega
       obtain ⟨m, hm⟩ : ∃ m : Nat, ps - 3 - ((innerB gen gone name index last bytes).length : Int) = (m : Int) := ⟨(ps - 3 - ((innerB gen gone name index last bytes).length : Int)).toNat, by rw [hin]; omega⟩
       have hm2 : m ≤ 1024 := by omega
       have eb : innerB gen gone name index last bytes ++ List.replicate m 255 = encB ps gen gone name index last bytes := by unfold encB; rw [hm]; simp
       have hlen := Q104 (gen := gen) (gone := gone) (index := index) (last := last) (bytes := bytes) (name := name) (ps := ps) (by omega)
       have c3 : (innerB gen gone name index last bytes).length + (List.replicate m (255 : Int)).length ≤ LIM 1 := by rw [LIM1, List.length_replicate]; omega
       have c4 : ∀ r2 : Int, (encB ps gen gone name index last bytes).length + ([IntKind.u8.wrap (Int.fdiv r2 (2 ^ 8)), IntKind.u8.wrap r2, (165 : Int)] : LI).length ≤ LIM 1 := fun r2 => by rw [LIM1]; simp; omega
       rw [wi (n := ps - 3) (by omega) (by omega), wi (n := ps - 3 - _) (by omega) (by omega), hm, Q1ge (by omega) (by omega)]
       simp only [c1, c2, c3, decide_true, cond_true, eb]
       rw [Q10m _ (by omega) (by omega)]
       simp only [c4, decide_true, cond_true, encAll]
      have e0 : encErr ps gen gone name index last bytes = if gone = true ∧ (0 < bytes.length ∨ index ≠ 0 ∨ last = false) then 3 else 0 := by
       simp only [encErr, h1, h2, h3, h4, Bool.true_eq_false, if_false]; rw [if_neg h5]
      by_cases hg : gone = true
      ·subst hg
       by_cases hb0 : 0 < bytes.length
       ·have : decide ((bytes.length : Int) > 0) = true := dT (by omega)
        have e : encErr ps gen true name index last bytes = 3 := by rw [e0, if_pos ⟨rfl, .inl hb0⟩]
        rw [e]; simp [h5, this, hb0]
       ·have hb0' : decide ((bytes.length : Int) > 0) = false := dF (by omega)
        by_cases hi0 : index = 0
        ·cases last
         ·have e : encErr ps gen true name index false bytes = 3 := by rw [e0, if_pos ⟨rfl, .inr (.inr rfl)⟩]
          rw [e]; simp [h5, hb0', hi0]
         ·have e : encErr ps gen true name index true bytes = 0 := by rw [e0, if_neg (by simp [hb0, hi0])]
          rw [e]
          simp only [h5, if_true, decide_false, cond_false, Bool.not_true, BEq.rfl, cond_true, hb0', Q1g, hi0, decide_true, Q4l, Q7x, Q4m, Q7y]
          simp only [hi0] at body
          exact body 2 1 rfl rfl
        ·have hi' : (index != 0) = true := by simpa using hi0
         have e : encErr ps gen true name index last bytes = 3 := by rw [e0, if_pos ⟨rfl, .inr (.inl hi0)⟩]
         rw [e]
         simp only [h5, decide_false, cond_false, Bool.not_true, BEq.rfl, cond_true, hb0', hi', show (true == false) = false from rfl]
         simp
      ·have hg' : gone = false := by simpa using hg
       subst hg'
       have e : encErr ps gen false name index last bytes = 0 := by rw [e0, if_neg (by simp)]
       rw [e]
       simp only [h5, if_true, decide_false, cond_false, Bool.not_true, BEq.rfl, cond_true, Q4l, Q7x, Q4m, Q7y, show (false == true) = false from rfl]
       cases last
       ·exact body 1 0 rfl rfl
       ·exact body 1 1 rfl rfl
theorem Q1fz {k : Nat} (ps gen : Int) (gone : Bool) (name : BA) (index : Int) (last : Bool) (bytes : LI) (hk : name.size + 3000 < k) (hs : name.size < 4611686018427387904) (K : Int → LI → Oq R) :
  f54 k ps gen gone name index last bytes K = K (encErr ps gen gone name index last bytes) (if encErr ps gen gone name index last bytes = 0 then encAll ps gen gone name index last bytes else []) := by
 rw [Q11u]
 obtain ⟨k, rfl⟩ := Q9 (show 0 < k by omega)
 have h55 : ∀ K : Int → Oq R, f50 k ps name K = K (IntKind.i64.wrap (IntKind.i64.wrap (ps - 15) - (name.size : Int))) := fun K => by
  rw [Q11p]
  obtain ⟨k, rfl⟩ := Q9 (show 0 < k by omega)
  rfl
 simp only [f54d, Qkt (show 0 < k by omega), Q1fy name (show _ < k by omega) hs, h55]
 cases h1 : inB ps 64 1024
 ·have e : encErr ps gen gone name index last bytes = 1 := by simp only [encErr, h1, if_true]
  rw [e]; simp
 ·cases h2 : inB gen 1 4000000000
  ·have e : encErr ps gen gone name index last bytes = 1 := by simp only [encErr, h1, h2, if_true, Bool.true_eq_false, if_false]
   rw [e]; simp
  ·cases h3 : nameB name
   ·have e : encErr ps gen gone name index last bytes = 5 := by simp only [encErr, h1, h2, h3, if_true, Bool.true_eq_false, if_false]
    rw [e]; simp
   ·cases h4 : inB index 0 65535
    ·have e : encErr ps gen gone name index last bytes = 1 := by simp only [encErr, h1, h2, h3, h4, if_true, Bool.true_eq_false, if_false]
     rw [e]; simp
    ·obtain ⟨p1, p2⟩ := Q22.1 h1
     obtain ⟨n1, n2⟩ := Qfi h3
     rw [wi (n := ps - 15) (by omega) (by omega), wi (n := ps - 15 - name.size) (by omega) (by omega)]
     have hns : decide (name.size ≤ 140737488355328) = true := dT (by omega)
     have hns' : decide (name.size ≤ LIM 1) = true := by rw [LIM1]; exact hns
     by_cases h5 : (bytes.length : Int) > ps - 15 - name.size
     ·have e : encErr ps gen gone name index last bytes = 2 := by simp only [encErr, h1, h2, h3, h4, Bool.true_eq_false, if_false]; rw [if_pos h5]
      rw [e]; simp [h5]
     ·have body : ∀ (a b : Int), a = (if gone then 2 else 1) → b = (if last then 1 else 0) → (bif decide (([IntKind.u8.wrap (Int.fdiv gen (2 ^ 24)), IntKind.u8.wrap (Int.fdiv gen (2 ^ 16)), IntKind.u8.wrap (Int.fdiv gen (2 ^ 8)), IntKind.u8.wrap gen, a, IntKind.u8.wrap (name.size : Int), IntKind.u8.wrap (Int.fdiv index (2 ^ 8)), IntKind.u8.wrap index, IntKind.u8.wrap (Int.fdiv (bytes.length : Int) (2 ^ 8)), IntKind.u8.wrap (bytes.length : Int), b, (0 : Int)] : LI).length + (bytesOf name).length ≤ LIM 1) then (bif decide ((([IntKind.u8.wrap (Int.fdiv gen (2 ^ 24)), IntKind.u8.wrap (Int.fdiv gen (2 ^ 16)), IntKind.u8.wrap (Int.fdiv gen (2 ^ 8)), IntKind.u8.wrap gen, a, IntKind.u8.wrap (name.size : Int), IntKind.u8.wrap (Int.fdiv index (2 ^ 8)), IntKind.u8.wrap index, IntKind.u8.wrap (Int.fdiv (bytes.length : Int) (2 ^ 8)), IntKind.u8.wrap (bytes.length : Int), b, (0 : Int)] : LI) ++ (bytesOf name)).length + bytes.length ≤ LIM 1) then (f104 k (IntKind.i64.wrap ((IntKind.i64.wrap (ps - (3 : Int))) - (((([IntKind.u8.wrap (Int.fdiv gen (2 ^ 24)), IntKind.u8.wrap (Int.fdiv gen (2 ^ 16)), IntKind.u8.wrap (Int.fdiv gen (2 ^ 8)), IntKind.u8.wrap gen, a, IntKind.u8.wrap (name.size : Int), IntKind.u8.wrap (Int.fdiv index (2 ^ 8)), IntKind.u8.wrap index, IntKind.u8.wrap (Int.fdiv (bytes.length : Int) (2 ^ 8)), IntKind.u8.wrap (bytes.length : Int), b, (0 : Int)] : LI) ++ (bytesOf name)) ++ bytes).length : Int))) (fun r1 => (bif decide (((([IntKind.u8.wrap (Int.fdiv gen (2 ^ 24)), IntKind.u8.wrap (Int.fdiv gen (2 ^ 16)), IntKind.u8.wrap (Int.fdiv gen (2 ^ 8)), IntKind.u8.wrap gen, a, IntKind.u8.wrap (name.size : Int), IntKind.u8.wrap (Int.fdiv index (2 ^ 8)), IntKind.u8.wrap index, IntKind.u8.wrap (Int.fdiv (bytes.length : Int) (2 ^ 8)), IntKind.u8.wrap (bytes.length : Int), b, (0 : Int)] : LI) ++ (bytesOf name)) ++ bytes).length + r1.length ≤ LIM 1) then (f105 k (((([IntKind.u8.wrap (Int.fdiv gen (2 ^ 24)), IntKind.u8.wrap (Int.fdiv gen (2 ^ 16)), IntKind.u8.wrap (Int.fdiv gen (2 ^ 8)), IntKind.u8.wrap gen, a, IntKind.u8.wrap (name.size : Int), IntKind.u8.wrap (Int.fdiv index (2 ^ 8)), IntKind.u8.wrap index, IntKind.u8.wrap (Int.fdiv (bytes.length : Int) (2 ^ 8)), IntKind.u8.wrap (bytes.length : Int), b, (0 : Int)] : LI) ++ (bytesOf name)) ++ bytes) ++ r1) (fun r2 => (bif decide ((((([IntKind.u8.wrap (Int.fdiv gen (2 ^ 24)), IntKind.u8.wrap (Int.fdiv gen (2 ^ 16)), IntKind.u8.wrap (Int.fdiv gen (2 ^ 8)), IntKind.u8.wrap gen, a, IntKind.u8.wrap (name.size : Int), IntKind.u8.wrap (Int.fdiv index (2 ^ 8)), IntKind.u8.wrap index, IntKind.u8.wrap (Int.fdiv (bytes.length : Int) (2 ^ 8)), IntKind.u8.wrap (bytes.length : Int), b, (0 : Int)] : LI) ++ (bytesOf name)) ++ bytes) ++ r1).length + ([IntKind.u8.wrap (Int.fdiv r2 (2 ^ 8)), IntKind.u8.wrap r2, (165 : Int)] : LI).length ≤ LIM 1) then (K (0 : Int) ((((([IntKind.u8.wrap (Int.fdiv gen (2 ^ 24)), IntKind.u8.wrap (Int.fdiv gen (2 ^ 16)), IntKind.u8.wrap (Int.fdiv gen (2 ^ 8)), IntKind.u8.wrap gen, a, IntKind.u8.wrap (name.size : Int), IntKind.u8.wrap (Int.fdiv index (2 ^ 8)), IntKind.u8.wrap index, IntKind.u8.wrap (Int.fdiv (bytes.length : Int) (2 ^ 8)), IntKind.u8.wrap (bytes.length : Int), b, (0 : Int)] : LI) ++ (bytesOf name)) ++ bytes) ++ r1) ++ ([IntKind.u8.wrap (Int.fdiv r2 (2 ^ 8)), IntKind.u8.wrap r2, (165 : Int)] : LI))) else none))) else none))) else none) else none)
        = K 0 (encAll ps gen gone name index last bytes) := by
       intro a b ha hb
       subst ha hb
       change (bif decide ((headB gen gone name index last (bytes.length : Int)).length + (bytesOf name).length ≤ LIM 1) then (bif decide ((headB gen gone name index last (bytes.length : Int) ++ bytesOf name).length + bytes.length ≤ LIM 1) then (f104 k (IntKind.i64.wrap ((IntKind.i64.wrap (ps - (3 : Int))) - ((innerB gen gone name index last bytes).length : Int))) (fun r1 => (bif decide ((innerB gen gone name index last bytes).length + r1.length ≤ LIM 1) then (f105 k (innerB gen gone name index last bytes ++ r1) (fun r2 => (bif decide ((innerB gen gone name index last bytes ++ r1).length + ([IntKind.u8.wrap (Int.fdiv r2 (2 ^ 8)), IntKind.u8.wrap r2, (165 : Int)] : LI).length ≤ LIM 1) then (K (0 : Int) ((innerB gen gone name index last bytes ++ r1) ++ ([IntKind.u8.wrap (Int.fdiv r2 (2 ^ 8)), IntKind.u8.wrap r2, (165 : Int)] : LI))) else none))) else none))) else none) else none) = _
       have hin := Qce gen gone name index last bytes
       have c1 : (headB gen gone name index last (bytes.length : Int)).length + (bytesOf name).length ≤ LIM 1 := by rw [LIM1, Q17]; simp [headB]; omega
       have c2 : (headB gen gone name index last (bytes.length : Int) ++ bytesOf name).length + bytes.length ≤ LIM 1 := by rw [LIM1, List.length_append, Q17]; simp [headB]; omega
       obtain ⟨m, hm⟩ : ∃ m : Nat, ps - 3 - ((innerB gen gone name index last bytes).length : Int) = (m : Int) := ⟨(ps - 3 - ((innerB gen gone name index last bytes).length : Int)).toNat, by rw [hin]; omega⟩
       have hm2 : m ≤ 1024 := by omega
       have eb : innerB gen gone name index last bytes ++ List.replicate m 255 = encB ps gen gone name index last bytes := by unfold encB; rw [hm]; simp
       have hlen := Q104 (gen := gen) (gone := gone) (index := index) (last := last) (bytes := bytes) (name := name) (ps := ps) (by omega)
       have c3 : (innerB gen gone name index last bytes).length + (List.replicate m (255 : Int)).length ≤ LIM 1 := by rw [LIM1, List.length_replicate]; omega
       have c4 : ∀ r2 : Int, (encB ps gen gone name index last bytes).length + ([IntKind.u8.wrap (Int.fdiv r2 (2 ^ 8)), IntKind.u8.wrap r2, (165 : Int)] : LI).length ≤ LIM 1 := fun r2 => by rw [LIM1]; simp; omega
       rw [wi (n := ps - 3) (by omega) (by omega), wi (n := ps - 3 - _) (by omega) (by omega), hm, Q1bs (by omega) (by omega)]
       simp only [c1, c2, c3, decide_true, cond_true, eb]
       rw [Q1bt _ (by omega) (by omega)]
       simp only [c4, decide_true, cond_true, encAll]
      have e0 : encErr ps gen gone name index last bytes = if gone = true ∧ (0 < bytes.length ∨ index ≠ 0 ∨ last = false) then 3 else 0 := by
       simp only [encErr, h1, h2, h3, h4, Bool.true_eq_false, if_false]; rw [if_neg h5]
      by_cases hg : gone = true
      ·subst hg
       by_cases hb0 : 0 < bytes.length
       ·have : decide ((bytes.length : Int) > 0) = true := dT (by omega)
        have e : encErr ps gen true name index last bytes = 3 := by rw [e0, if_pos ⟨rfl, .inl hb0⟩]
        rw [e]; simp [h5, this, hb0]
       ·have hb0' : decide ((bytes.length : Int) > 0) = false := dF (by omega)
        by_cases hi0 : index = 0
        ·cases last
         ·have e : encErr ps gen true name index false bytes = 3 := by rw [e0, if_pos ⟨rfl, .inr (.inr rfl)⟩]
          rw [e]; simp [h5, hb0', hi0]
         ·have e : encErr ps gen true name index true bytes = 0 := by rw [e0, if_neg (by simp [hb0, hi0])]
          rw [e]
          simp only [hns, hns', h5, if_true, decide_false, cond_false, Bool.not_true, BEq.rfl, cond_true, hb0', Q1g, hi0, decide_true, Q74, Qb2, Q75, Qb3]
          simp only [hi0] at body
          exact body 2 1 rfl rfl
        ·have hi' : (index != 0) = true := by simpa using hi0
         have e : encErr ps gen true name index last bytes = 3 := by rw [e0, if_pos ⟨rfl, .inr (.inl hi0)⟩]
         rw [e]
         simp only [h5, decide_false, cond_false, Bool.not_true, BEq.rfl, cond_true, hb0', hi', show (true == false) = false from rfl]
         simp
      ·have hg' : gone = false := by simpa using hg
       subst hg'
       have e : encErr ps gen false name index last bytes = 0 := by rw [e0, if_neg (by simp)]
       rw [e]
       simp only [hns, hns', h5, if_true, decide_false, cond_false, Bool.not_true, BEq.rfl, cond_true, Q74, Qb2, Q75, Qb3, show (false == true) = false from rfl]
       cases last
       ·exact body 1 0 rfl rfl
       ·exact body 1 1 rfl rfl
theorem enc_B (ps gen : Int) (gone : Bool) (name : BA) (index : Int) (last : Bool) {bytes : LI} (h : B bytes) : B (encAll ps gen gone name index last bytes) := by
 unfold encAll encB innerB
 refine B.app (B.app (B.app (B.app ?_ (B.bytesOf name)) h) ?_) ?_
 ·unfold headB
  intro x hx
  simp only [List.mem_cons, List.not_mem_nil, or_false] at hx
  rcases hx with rfl | rfl | rfl | rfl | rfl | rfl | rfl | rfl | rfl | rfl | rfl | rfl <;> first
   | exact Q71 _
   | (split <;> decide)
   | decide
 ·intro x hx
  rw [List.eq_of_mem_replicate hx]
  decide
 ·intro x hx
  simp only [List.mem_cons, List.not_mem_nil, or_false] at hx
  rcases hx with rfl | rfl | rfl <;> first
   | exact Q71 _
   | decide
def all255 (l : LI) : Bool := l.all fun c => decide (c = 255)
theorem Qlh (k : Nat) (hk : 0 < k) (K : Int → Oq R) (x : Oq R) (l : LI) (hl : l.length < 4611686018427387904) (hK : ∀ n : Int, 0 ≤ n → K n = K 0) : ∀ (d f i : Nat), i + d = l.length → d < f →
  Q5a k K x l (l.length : Int) f (i : Int) = if all255 (l.drop i) then x else K 0
 | d, 0, i, _, h => absurd h (Nat.not_lt_zero _)
 | 0, f + 1, i, hi, _ => by
   have h1 : decide ((i : Int) < (l.length : Int)) = false := dF (by omega)
   simp only [Q5a, Qo7, h1, cond_false]
   rw [List.drop_of_length_le (by omega)]
   rfl
 | d + 1, f + 1, i, hi, hf => by
   have h1 : decide ((i : Int) < (l.length : Int)) = true := dT (by omega)
   have h0 : decide ((0 : Int) ≤ (i : Int)) = true := by simp
   have hw : IntKind.i64.wrap ((i : Int) + 1) = ((i + 1 : Nat) : Int) := wj (by omega)
   have hli : i < l.length := by omega
   have ih := Qlh k hk K x l hl hK d f (i + 1) (by omega) (by omega)
   simp only [Q5a, Qo7, h1, h0, cond_true, Bool.and_self, Int.toNat_natCast, hw, Q1s hli, Qro]
   obtain ⟨k, rfl⟩ := Q9 hk
   simp only [f134d, Q1g]
   rw [List.drop_eq_getElem_cons hli]
   by_cases e : l[i] = 255
   ·have e' : all255 (l[i] :: l.drop (i + 1)) = all255 (l.drop (i + 1)) := by unfold all255; rw [List.all_cons, decide_eq_true e]; rfl
    rw [e']
    simp only [e, decide_true, Bool.not_true, cond_false]
    exact ih
   ·have e' : all255 (l[i] :: l.drop (i + 1)) = false := by unfold all255; rw [List.all_cons, decide_eq_false e]; rfl
    rw [e']
    simp only [e, decide_false, Bool.not_false, cond_true, Bool.false_eq_true, if_false]
    exact hK _ (by omega)
theorem Q1a3 {k : Nat} (l : LI) (hk : l.length + 10 < k) (hl : l.length < 4611686018427387904) (K : Bool → Oq R) : f98 k l K = K (all255 l) := by
 rw [Q132]
 obtain ⟨k, rfl⟩ := Q9 (show 0 < k by omega)
 simp only [f98d, Qrn]
 obtain ⟨k, rfl⟩ := Q9 (show 0 < k by omega)
 simp only [f133d, Qru]
 obtain ⟨k, rfl⟩ := Q9 (show 0 < k by omega)
 simp only [f146d, Qeu]
 refine (Qlh k (by omega) _ _ l hl (fun n hn => ?_) l.length k 0 (by omega) (by omega)).trans ?_
 ·have : decide (n ≥ 0) = true := by simpa using hn
  simp [this]
 ·rw [List.drop_zero]
  cases all255 l <;> simp
theorem Qt0 (k : Nat) (K : Bool → Oq R) (x : Oq R) (l : LI) (hl : l.length < 4611686018427387904) : ∀ (d f i : Nat), i + d = l.length → d < f →
  Q4o k K x l f (i : Int) = if all255 (l.drop i) then x else K false
 | d, 0, i, _, h => absurd h (Nat.not_lt_zero _)
 | 0, f + 1, i, hi, _ => by
   have h1 : decide ((i : Int) < (l.length : Int)) = false := dF (by omega)
   simp only [Q4o, Qnm, h1, cond_false]
   rw [List.drop_of_length_le (by omega)]
   rfl
 | d + 1, f + 1, i, hi, hf => by
   have h1 : decide ((i : Int) < (l.length : Int)) = true := dT (by omega)
   have h0 : decide ((0 : Int) ≤ (i : Int)) = true := by simp
   have hw : IntKind.i64.wrap ((i : Int) + 1) = ((i + 1 : Nat) : Int) := wj (by omega)
   have hli : i < l.length := by omega
   have ih := Qt0 k K x l hl d f (i + 1) (by omega) (by omega)
   simp only [Q4o, Qnm, h1, h0, cond_true, Bool.and_self, Int.toNat_natCast, hw, Q1s hli, Q1g]
   rw [List.drop_eq_getElem_cons hli]
   by_cases e : l[i] = 255
   ·have e' : all255 (l[i] :: l.drop (i + 1)) = all255 (l.drop (i + 1)) := by unfold all255; rw [List.all_cons, decide_eq_true e]; rfl
    rw [e']
    simp only [e, decide_true, Bool.not_true, cond_false]
    exact ih
   ·have e' : all255 (l[i] :: l.drop (i + 1)) = false := by unfold all255; rw [List.all_cons, decide_eq_false e]; rfl
    rw [e']
    simp [e]
theorem Q1bq {k : Nat} (l : LI) (hk : l.length + 10 < k) (hl : l.length < 4611686018427387904) (K : Bool → Oq R) : f102 k l K = K (all255 l) := by
 rw [Qqz]
 obtain ⟨k, rfl⟩ := Q9 (show 0 < k by omega)
 simp only [f102d, Qe9]
 refine (Qt0 k K (K true) l hl l.length k 0 (by omega) (by omega)).trans ?_
 rw [List.drop_zero]
 cases all255 l <;> simp
theorem or_lo {a b : Int} (i : Nat) (ha : 0 ≤ a ∧ a < 4294967296) (hb : 0 ≤ b ∧ b < 2 ^ i) (hi : i ≤ 24) : bits .or .i64 (a * 2 ^ i) b = a * 2 ^ i + b := by
 obtain ⟨m, rfl⟩ : ∃ m : Nat, a = (m : Int) := ⟨a.toNat, by omega⟩
 obtain ⟨n, rfl⟩ : ∃ n : Nat, b = (n : Int) := ⟨b.toNat, by omega⟩
 have hn : n < 2 ^ i := by have := hb.2; exact_mod_cast this
 have hm : m < 4294967296 := by omega
 have hp : 2 ^ i ≤ 2 ^ 24 := Nat.pow_le_pow_right (by decide) hi
 have hmul : m * 2 ^ i < 2 ^ 63 := Nat.lt_of_le_of_lt (Nat.mul_le_mul (Nat.le_of_lt hm) hp) (by decide)
 have e : ((m : Int) * 2 ^ i) = ((m * 2 ^ i : Nat) : Int) := by push_cast; rfl
 rw [e, Q1ii _ _ hmul (Nat.lt_of_lt_of_le hn (Nat.le_trans hp (by decide)))]
 have : m * 2 ^ i ||| n = m * 2 ^ i + n := by
  rw [Nat.mul_comm, Nat.two_pow_add_eq_or_of_lt hn m]
 rw [this]
 push_cast
 rfl
def w2 (l : LI) (i : Nat) : Int := l.getD i 0 * 256 + l.getD (i + 1) 0
theorem Q157 {l : LI} (h : B l) (i : Nat) : bits .or .i64 (IntKind.i64.wrap (IntKind.i64.wrap (l.getD i 0) * 2 ^ 8)) (IntKind.i64.wrap (l.getD (i + 1) 0)) = w2 l i := by
 have a := h.getD i
 have b := h.getD (i + 1)
 rw [wi (n := l.getD i 0) (by omega) (by omega), wi (n := l.getD (i + 1) 0) (by omega) (by omega), wi (n := l.getD i 0 * 2 ^ 8) (by omega) (by omega), or_lo 8 (by omega) (by omega) (by omega)]
 unfold w2; omega
theorem Q3u {l : LI} (h : B l) (i : Nat) : 0 ≤ w2 l i ∧ w2 l i < 65536 := by
 have a := h.getD i
 have b := h.getD (i + 1)
 unfold w2; omega
def w4 (l : LI) : Int := w2 l 0 * 65536 + w2 l 2
theorem Q1a4 {k : Nat} (hk : 0 < k) {l : LI} (h : B l) (hl : 64 ≤ l.length) (K : Int → Oq R) : f99 k l K = K (w4 l) := by
 rw [Q133]
 obtain ⟨k, rfl⟩ := Q9 hk
 have c0 : decide ((0 : Int) < (l.length : Int)) = true := dT (by omega)
 have c1 : decide ((1 : Int) < (l.length : Int)) = true := dT (by omega)
 have c2 : decide ((2 : Int) < (l.length : Int)) = true := dT (by omega)
 have c3 : decide ((3 : Int) < (l.length : Int)) = true := dT (by omega)
 have a := h.getD 0
 have b := h.getD 1
 have c := h.getD 2
 have d := h.getD 3
 simp only [f99d, c0, c1, c2, c3, cond_true]
 rw [wi (n := l.getD 0 0) (by omega) (by omega), wi (n := l.getD 1 0) (by omega) (by omega), wi (n := l.getD 2 0) (by omega) (by omega), wi (n := l.getD 3 0) (by omega) (by omega),
  wi (n := l.getD 0 0 * 2 ^ 24) (by omega) (by omega), wi (n := l.getD 1 0 * 2 ^ 16) (by omega) (by omega), wi (n := l.getD 2 0 * 2 ^ 8) (by omega) (by omega)]
 rw [or_lo 24 (by omega) (by omega) (by omega)]
 have e1 : l.getD 0 0 * 2 ^ 24 + l.getD 1 0 * 2 ^ 16 = (l.getD 0 0 * 256 + l.getD 1 0) * 2 ^ 16 := by omega
 rw [e1, or_lo 16 (by omega) (by omega) (by omega)]
 have e2 : (l.getD 0 0 * 256 + l.getD 1 0) * 2 ^ 16 + l.getD 2 0 * 2 ^ 8 = ((l.getD 0 0 * 256 + l.getD 1 0) * 256 + l.getD 2 0) * 2 ^ 8 := by omega
 rw [e2, or_lo 8 (by omega) (by omega) (by omega)]
 congr 1
 change _ = (l.getD 0 0 * 256 + l.getD 1 0) * 65536 + (l.getD 2 0 * 256 + l.getD 3 0)
 omega
theorem Q1br {k : Nat} (hk : 0 < k) {l : LI} (h : B l) (i : Nat) (hl : i + 1 < l.length) (h2 : l.length < 4611686018427387904) (K : Int → Oq R) : f103 k l (i : Int) K = K (w2 l i) := by
 rw [Qr0]
 obtain ⟨k, rfl⟩ := Q9 hk
 have hw : IntKind.i64.wrap ((i : Int) + 1) = ((i + 1 : Nat) : Int) := wj (by omega)
 have c0 : decide ((0 : Int) ≤ (i : Int)) = true := by simp
 have c1 : decide ((i : Int) < (l.length : Int)) = true := dT (by omega)
 have c2 : decide ((0 : Int) ≤ ((i + 1 : Nat) : Int)) = true := dT (by omega)
 have c3 : decide (((i + 1 : Nat) : Int) < (l.length : Int)) = true := dT (by omega)
 have a := h.getD i
 have b := h.getD (i + 1)
 simp only [f103d, hw, c0, c1, c2, c3, Bool.and_self, cond_true, Int.toNat_natCast]
 rw [wi (n := l.getD i 0) (by omega) (by omega), wi (n := l.getD (i + 1) 0) (by omega) (by omega), wi (n := l.getD i 0 * 256) (by omega) (by omega), wi (by omega) (by omega)]
 rfl
theorem Qe7 (k : Nat) (K : Bool → Oq R) (l m : LI) (hlm : l.length = m.length) (hl : l.length < 4611686018427387904) : ∀ (d f i : Nat), i + d = l.length → d < f →
  Q57 k K (K true) l m (l.length : Int) f (i : Int) = K (decide (l.drop i = m.drop i))
 | d, 0, i, _, h => absurd h (Nat.not_lt_zero _)
 | 0, f + 1, i, hi, _ => by
   have h1 : decide ((i : Int) < (l.length : Int)) = false := dF (by omega)
   simp only [Q57, Qo3, h1, cond_false]
   rw [List.drop_of_length_le (by omega), List.drop_of_length_le (by omega)]
   simp
 | d + 1, f + 1, i, hi, hf => by
   have h1 : decide ((i : Int) < (l.length : Int)) = true := dT (by omega)
   have h2 : decide ((i : Int) < (m.length : Int)) = true := dT (by omega)
   have h0 : decide ((0 : Int) ≤ (i : Int)) = true := by simp
   have hw : IntKind.i64.wrap ((i : Int) + 1) = ((i + 1 : Nat) : Int) := wj (by omega)
   have hli : i < l.length := by omega
   have hmi : i < m.length := by omega
   simp only [Q57, Qo3, h1, h0, h2, cond_true, Bool.and_self, Int.toNat_natCast, hw, Q1s hli, Q1s hmi]
   rw [List.drop_eq_getElem_cons hli, List.drop_eq_getElem_cons hmi, Q1g]
   by_cases e : l[i] = m[i]
   ·simp only [e, decide_true, Bool.not_true, cond_false, List.cons.injEq, true_and]
    exact Qe7 k K l m hlm hl d f (i + 1) (by omega) (by omega)
   ·simp only [List.cons.injEq, e, false_and, decide_false, Bool.not_false, cond_true]
theorem Q1c2 {k : Nat} {l : LI} (m : LI) (hk : l.length + 1 < k) (hl : l.length < 4611686018427387904) (K : Bool → Oq R) : f132 k l m K = K (decide (l = m)) := by
 rw [Qrm]
 obtain ⟨k, rfl⟩ := Q9 (show 0 < k by omega)
 simp only [f132d, Q1g, Qeq]
 by_cases h : l.length = m.length
 ·have : decide ((l.length : Int) = (m.length : Int)) = true := dT (by omega)
  simp only [this, Bool.not_true, cond_false]
  exact (Qe7 k K l m h hl l.length k 0 (by omega) (by omega)).trans (by simp)
 ·have : decide ((l.length : Int) = (m.length : Int)) = false := dF (by omega)
  have h' : ¬ l = m := fun e => h (by rw [e])
  simp [this, h']
theorem Q14z {a b : LI} (ha : B a) (hb : B b) : ((strOf a).toList == (strOf b).toList) = decide (b = a) := by
 have inj : ∀ {a b : LI}, B a → B b → a.map (fun n => UInt8.ofNat n.toNat) = b.map (fun n => UInt8.ofNat n.toNat) → a = b := by
  intro a
  induction a with
  | nil => intro b _ _ h; cases b with
    | nil => rfl
    | cons y b => simp at h
  | cons x a ih =>
    intro b ha hb h
    cases b with
    | nil => simp at h
    | cons y b =>
      simp only [List.map_cons, List.cons.injEq] at h
      have hx := ha x (by simp)
      have hy := hb y (by simp)
      have e : x = y := by
       have := congrArg UInt8.toNat h.1
       simp only [UInt8.toNat_ofNat'] at this
       omega
      rw [e, ih (fun z hz => ha z (by simp [hz])) (fun z hz => hb z (by simp [hz])) h.2]
 have e : (strOf a).toList = (strOf b).toList ↔ b = a := by
  rw [ByteArray.toList_eq, ByteArray.toList_eq]
  unfold strOf
  simp only [List.toList_toArray]
  exact ⟨fun h => (inj ha hb h).symm, fun h => by rw [h]⟩
 by_cases h : b = a
 ·rw [beq_iff_eq.2 (e.2 h), decide_eq_true h]
 ·have : ¬ (strOf a).toList = (strOf b).toList := fun h' => h (e.1 h')
  rw [decide_eq_false h]
  simpa using this
abbrev Pg := Int × Int × Bool × BA × Int × Bool × LI
def pgZ (s : Int) : Pg := (s, 0, false, ⟨#[]⟩, 0, false, [])
def nameOf (l : LI) : BA := strOf ((l.take (12 + l.getD 5 0).toNat).drop 12)
def Q1q (l : LI) : LI := (l.take (12 + l.getD 5 0 + w2 l 8).toNat).drop (12 + l.getD 5 0).toNat
def decErr (l : LI) : Int := encErr (l.length : Int) (w4 l) (l.getD 4 0 == 2) (nameOf l) (w2 l 6) (l.getD 10 0 == 1) (Q1q l)
def decAll (l : LI) : LI := encAll (l.length : Int) (w4 l) (l.getD 4 0 == 2) (nameOf l) (w2 l 6) (l.getD 10 0 == 1) (Q1q l)
def decF (l : LI) : Pg :=
 if all255 l then pgZ 1 else if l.getD (l.length - 1) 0 ≠ 165 then pgZ 2 else if 12 + l.getD 5 0 + w2 l 8 > (l.length : Int) - 3 then pgZ 3
 else if decErr l = 0 ∧ l = decAll l then (4, w4 l, l.getD 4 0 == 2, nameOf l, w2 l 6, l.getD 10 0 == 1, Q1q l) else pgZ 3
def apP (K : Int → Int → Bool → BA → Int → Bool → LI → Oq R) (x : Pg) : Oq R := K x.1 x.2.1 x.2.2.1 x.2.2.2.1 x.2.2.2.2.1 x.2.2.2.2.2.1 x.2.2.2.2.2.2
theorem Qg4 (l : LI) : (strOf l).size = l.length := by
 show (strOf l).data.size = l.length
 unfold strOf; simp
theorem Q1gg {k : Nat} {l : LI} (h : B l) (h0 : 64 ≤ l.length) (h1 : l.length ≤ 1024) (hk : 6000 < k) (K : Int → Int → Bool → BA → Int → Bool → LI → Oq R) : f97 k l K = apP K (decF l) := by
 rw [Q131]
 obtain ⟨k, rfl⟩ := Q9 (show 0 < k by omega)
 simp only [f97d, Q1a3 l (show _ < k by omega) (by omega), Q1g]
 have e1 : IntKind.i64.wrap ((l.length : Int) - 1) = ((l.length - 1 : Nat) : Int) := wj (by omega)
 have e3 : IntKind.i64.wrap ((l.length : Int) - 3) = (l.length : Int) - 3 := wi (by omega) (by omega)
 have b5 := h.getD 5
 have b8 := Q3u h 8
 have hw5 : IntKind.i64.wrap (12 + IntKind.i64.wrap (l.getD 5 0)) = 12 + l.getD 5 0 := by rw [wi (n := l.getD 5 0) (by omega) (by omega), wi (by omega) (by omega)]
 have hwn : IntKind.i64.wrap (12 + l.getD 5 0 + w2 l 8) = 12 + l.getD 5 0 + w2 l 8 := wi (by omega) (by omega)
 rw [Q157 h 8, Q157 h 6, e1, e3, hw5, hwn]
 have c0 : decide ((0 : Int) ≤ ((l.length - 1 : Nat) : Int)) = true := by simp
 have c1 : decide (((l.length - 1 : Nat) : Int) < (l.length : Int)) = true := dT (by omega)
 have d5 : decide ((5 : Int) < (l.length : Int)) = true := dT (by omega)
 have d8 : decide ((8 : Int) < (l.length : Int)) = true := dT (by omega)
 have d9 : decide ((9 : Int) < (l.length : Int)) = true := dT (by omega)
 have d4 : decide ((4 : Int) < (l.length : Int)) = true := dT (by omega)
 have d6 : decide ((6 : Int) < (l.length : Int)) = true := dT (by omega)
 have d7 : decide ((7 : Int) < (l.length : Int)) = true := dT (by omega)
 have d10 : decide ((10 : Int) < (l.length : Int)) = true := dT (by omega)
 simp only [c0, c1, d5, d8, d9, Bool.and_self, cond_true, Int.toNat_natCast]
 unfold decF
 by_cases ha : all255 l = true
 ·simp [ha, apP, pgZ]
 ·have ha' : all255 l = false := by simpa using ha
  rw [if_neg ha]
  simp only [ha', cond_false]
  by_cases hm : l.getD (l.length - 1) 0 = 165
  ·rw [if_neg (by simpa using hm)]
   simp only [hm, decide_true, Bool.not_true, cond_false]
   by_cases hn : 12 + l.getD 5 0 + w2 l 8 > (l.length : Int) - 3
   ·rw [if_pos hn]
    simp only [hn, decide_true, cond_true]
    rfl
   ·rw [if_neg hn]
    have x1 : decide ((12 : Int) ≤ 12 + l.getD 5 0) = true := dT (by omega)
    have x2 : decide (12 + l.getD 5 0 ≤ (l.length : Int)) = true := dT (by omega)
    have x3 : decide ((0 : Int) ≤ 12 + l.getD 5 0) = true := dT (by omega)
    have x4 : decide (12 + l.getD 5 0 ≤ 12 + l.getD 5 0 + w2 l 8) = true := dT (by omega)
    have x5 : decide (12 + l.getD 5 0 + w2 l 8 ≤ (l.length : Int)) = true := dT (by omega)
    simp only [hn, decide_false, cond_false, Q1a4 (show 0 < k by omega) h h0, d4, d6, d7, d10, x1, x2, x3, x4, x5, Bool.and_self, cond_true]
    change f83 k (Q1q l) (fun r20513_0 => f100 k (l.length : Int) (w4 l) (l.getD 4 0 == 2) (nameOf l) (w2 l 6) (l.getD 10 0 == 1) r20513_0 (fun r22531_0 r22531_1 => (bif ((!decide (r22531_0 = 0)) == false) then (f132 k l r22531_1 (fun r24581_0 => (bif (!r24581_0) then (K (3 : Int) (0 : Int) false (⟨#[]⟩ : BA) (0 : Int) false ([] : LI)) else (K (4 : Int) (w4 l) (l.getD 4 0 == 2) (nameOf l) (w2 l 6) (l.getD 10 0 == 1) r20513_0)))) else (K (3 : Int) (0 : Int) false (⟨#[]⟩ : BA) (0 : Int) false ([] : LI))))) = _
    have lb : (Q1q l).length ≤ 1024 := by unfold Q1q; simp; omega
    have ln : (nameOf l).size ≤ 1024 := by unfold nameOf; rw [Qg4]; simp; omega
    rw [Q1gc (by omega) _ (by omega), Q1bp _ _ _ _ _ _ _ (by omega) (by omega)]
    change (bif ((!decide (decErr l = 0)) == false) then (f132 k l (if decErr l = 0 then decAll l else []) (fun r24581_0 => (bif (!r24581_0) then (K (3 : Int) (0 : Int) false (⟨#[]⟩ : BA) (0 : Int) false ([] : LI)) else (K (4 : Int) (w4 l) (l.getD 4 0 == 2) (nameOf l) (w2 l 6) (l.getD 10 0 == 1) (Q1q l))))) else (K (3 : Int) (0 : Int) false (⟨#[]⟩ : BA) (0 : Int) false ([] : LI))) = _
    by_cases hd : decErr l = 0
    ·rw [if_pos hd, Q1c2 _ (by omega) (by omega)]
     simp only [hd, decide_true, Bool.not_true, BEq.rfl, cond_true, true_and]
     by_cases hq : l = decAll l
     ·rw [if_pos hq, decide_eq_true hq]; rfl
     ·rw [if_neg hq, decide_eq_false hq]; rfl
    ·have e : ¬ (decErr l = 0 ∧ l = decAll l) := fun x => hd x.1
     rw [if_neg hd, if_neg e, decide_eq_false hd]
     rfl
  ·rw [if_pos (by simpa using hm)]
   simp only [hm, decide_false, Bool.not_false, cond_true]
   rfl
theorem Q10n {k : Nat} {l : LI} (h : B l) (h0 : 64 ≤ l.length) (h1 : l.length ≤ 1024) (hk : 6000 < k) (K : Int → Int → Bool → BA → Int → Bool → LI → Oq R) : f112 k l K = apP K (decF l) := by
 rw [Qr8]
 obtain ⟨k, rfl⟩ := Q9 (show 0 < k by omega)
 have f103' : ∀ (i : Nat), i + 1 < 64 → ∀ K : Int → Oq R, f103 k l (i : Int) K = K (w2 l i) := fun i hi K => Q1br (by omega) h i (by omega) (by omega) K
 have e1 : IntKind.i64.wrap ((l.length : Int) - 1) = ((l.length - 1 : Nat) : Int) := wj (by omega)
 have e3 : IntKind.i64.wrap ((l.length : Int) - 3) = (l.length : Int) - 3 := wi (by omega) (by omega)
 have b5 := h.getD 5
 have b8 := Q3u h 8
 have b0 := Q3u h 0
 have b2 := Q3u h 2
 have hw5 : IntKind.i64.wrap (12 + IntKind.i64.wrap (l.getD 5 0)) = 12 + l.getD 5 0 := by rw [wi (n := l.getD 5 0) (by omega) (by omega), wi (by omega) (by omega)]
 have hwn : IntKind.i64.wrap (12 + l.getD 5 0 + w2 l 8) = 12 + l.getD 5 0 + w2 l 8 := wi (by omega) (by omega)
 have hw4 : IntKind.i64.wrap (IntKind.i64.wrap (w2 l 0 * 65536) + w2 l 2) = w4 l := by rw [wi (n := w2 l 0 * 65536) (by omega) (by omega), wi (by omega) (by omega)]; rfl
 simp only [f112d, Q1bq l (show _ < k by omega) (by omega), Q1g]
 have q8 := fun K : Int → Oq R => f103' 8 (by omega) K
 have q0 := fun K : Int → Oq R => f103' 0 (by omega) K
 have q2 := fun K : Int → Oq R => f103' 2 (by omega) K
 have q6 := fun K : Int → Oq R => f103' 6 (by omega) K
 rw [show (((8 : Nat) : Int)) = 8 from rfl] at q8
 rw [show (((0 : Nat) : Int)) = 0 from rfl] at q0
 rw [show (((2 : Nat) : Int)) = 2 from rfl] at q2
 rw [show (((6 : Nat) : Int)) = 6 from rfl] at q6
 have c0 : decide ((0 : Int) ≤ ((l.length - 1 : Nat) : Int)) = true := by simp
 have c1 : decide (((l.length - 1 : Nat) : Int) < (l.length : Int)) = true := dT (by omega)
 have d5 : decide ((5 : Int) < (l.length : Int)) = true := dT (by omega)
 have d4 : decide ((4 : Int) < (l.length : Int)) = true := dT (by omega)
 have d10 : decide ((10 : Int) < (l.length : Int)) = true := dT (by omega)
 simp only [e1, e3, hw5, c0, c1, d5, Bool.and_self, cond_true, Int.toNat_natCast, q8, hwn]
 unfold decF
 by_cases ha : all255 l = true
 ·simp [ha, apP, pgZ]
 ·have ha' : all255 l = false := by simpa using ha
  rw [if_neg ha]
  simp only [ha', cond_false]
  by_cases hm : l.getD (l.length - 1) 0 = 165
  ·rw [if_neg (by simpa using hm)]
   simp only [hm, decide_true, Bool.not_true, cond_false]
   by_cases hn : 12 + l.getD 5 0 + w2 l 8 > (l.length : Int) - 3
   ·rw [if_pos hn]
    simp only [hn, decide_true, cond_true]
    rfl
   ·rw [if_neg hn]
    have x1 : decide ((12 : Int) ≤ 12 + l.getD 5 0) = true := dT (by omega)
    have x2 : decide (12 + l.getD 5 0 ≤ (l.length : Int)) = true := dT (by omega)
    have x3 : decide ((0 : Int) ≤ 12 + l.getD 5 0) = true := dT (by omega)
    have x4 : decide (12 + l.getD 5 0 ≤ 12 + l.getD 5 0 + w2 l 8) = true := dT (by omega)
    have x5 : decide (12 + l.getD 5 0 + w2 l 8 ≤ (l.length : Int)) = true := dT (by omega)
    have lb : (Q1q l).length ≤ 1024 := by unfold Q1q; simp; omega
    have ln : (nameOf l).size ≤ 1024 := by unfold nameOf; rw [Qg4]; simp; omega
    have x6 : decide (((l.take (12 + l.getD 5 0 + w2 l 8).toNat).drop (12 + l.getD 5 0).toNat).length ≤ LIM 1) = true := by
     have : ((l.take (12 + l.getD 5 0 + w2 l 8).toNat).drop (12 + l.getD 5 0).toNat).length ≤ 1024 := lb
     rw [LIM1]; simp only [decide_eq_true_eq]; omega
    simp only [hn, decide_false, cond_false, q0, q2, q6, hw4, d4, d10, x1, x2, x3, x4, x5, x6, Bool.and_self, cond_true]
    change f54 k (l.length : Int) (w4 l) (l.getD 4 0 == 2) (nameOf l) (w2 l 6) (l.getD 10 0 == 1) (Q1q l) (fun r22531_0 r22531_1 => (bif ((!decide (r22531_0 = 0)) == false) then (f34 k r22531_1 l (fun r24581_0 => (bif (!r24581_0) then (K (3 : Int) (0 : Int) false (⟨#[]⟩ : BA) (0 : Int) false ([] : LI)) else (K (4 : Int) (w4 l) (l.getD 4 0 == 2) (nameOf l) (w2 l 6) (l.getD 10 0 == 1) (Q1q l))))) else (K (3 : Int) (0 : Int) false (⟨#[]⟩ : BA) (0 : Int) false ([] : LI)))) = _
    rw [Q1fz _ _ _ _ _ _ _ (by omega) (by omega)]
    change (bif ((!decide (decErr l = 0)) == false) then (f34 k (if decErr l = 0 then decAll l else []) l (fun r24581_0 => (bif (!r24581_0) then (K (3 : Int) (0 : Int) false (⟨#[]⟩ : BA) (0 : Int) false ([] : LI)) else (K (4 : Int) (w4 l) (l.getD 4 0 == 2) (nameOf l) (w2 l 6) (l.getD 10 0 == 1) (Q1q l))))) else (K (3 : Int) (0 : Int) false (⟨#[]⟩ : BA) (0 : Int) false ([] : LI))) = _
    by_cases hd : decErr l = 0
    ·have hB : B (decAll l) := enc_B _ _ _ _ _ _ (fun x hx => h x (List.mem_of_mem_take (List.mem_of_mem_drop hx)))
     rw [if_pos hd, Q1fx (by omega), Q14z hB h]
     simp only [hd, decide_true, Bool.not_true, BEq.rfl, cond_true, true_and]
     by_cases hq : l = decAll l
     ·rw [if_pos hq, decide_eq_true hq]; rfl
     ·rw [if_neg hq, decide_eq_false hq]; rfl
    ·have e : ¬ (decErr l = 0 ∧ l = decAll l) := fun x => hd x.1
     rw [if_neg hd, if_neg e, decide_eq_false hd]
     rfl
  ·rw [if_pos (by simpa using hm)]
   simp only [hm, decide_false, Bool.not_false, cond_true]
   rfl
end
end Go.Proofs.YtecnlienmpdlaaaGreat.PM

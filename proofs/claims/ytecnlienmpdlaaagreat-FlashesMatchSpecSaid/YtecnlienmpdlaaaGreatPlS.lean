import Derived.Test.YtecnlienmpdlaaaGreatSkD
import Derived.Test.YtecnlienmpdlaaaGreatBt
import Derived.Test.YtecnlienmpdlaaaGreatPT
set_option linter.unusedSimpArgs false
set_option linter.unusedVariables false
namespace Go.Proofs.YtecnlienmpdlaaaGreat.PM
open Go Go.Proofs.YtecnlienmpdlaaaGreat.Bt
def keyW (w : LI) (p n : Int) : Int := w.getD (n / p).toNat 0
def key2 (w : LI) (p n : Int) : Int := keyW w p n * 4096 + n
structure SC (w : LI) (p x : Int) : Prop where
 lo : 0 ≤ x
 hi : x < 4096
 ix : x / p < w.length
def SCs (w : LI) (p : Int) (l : LI) : Prop := ∀ x ∈ l, SC w p x
def Srt (w : LI) (p : Int) (l : LI) : Prop := l.Pairwise fun a b => key2 w p a < key2 w p b
def Cross (w : LI) (p : Int) (l m : LI) : Prop := ∀ x ∈ l, ∀ y ∈ m, keyW w p x = keyW w p y → x < y
variable {w : LI} {p : Int}
theorem Q79 {x y : Int} (hx : SC w p x) (hy : SC w p y) : key2 w p x < key2 w p y ↔ keyW w p x < keyW w p y ∨ (keyW w p x = keyW w p y ∧ x < y) := by
 have h1 := hx.lo
 have h2 := hx.hi
 have h3 := hy.lo
 have h4 := hy.hi
 unfold key2
 omega
theorem Q1cs {x y : Int} (hx : SC w p x) (hy : SC w p y) (h : keyW w p x = keyW w p y → x < y) : keyW w p y < keyW w p x ↔ key2 w p y < key2 w p x := by
 rw [Q79 hy hx]
 constructor
 ·intro h; exact .inl h
 ·rintro (h1 | ⟨h1, h2⟩)
  ·exact h1
  ·have := h h1.symm; omega
theorem Q1ce {x y : Int} (hx : SC w p x) (hy : SC w p y) (h : keyW w p x = keyW w p y → x < y) : key2 w p x ≠ key2 w p y := fun e => by
 have h1 := hx.lo
 have h2 := hx.hi
 have h3 := hy.lo
 have h4 := hy.hi
 unfold key2 at e
 have : keyW w p x = keyW w p y := by omega
 have := h this
 omega
theorem Srt.nodup {l : LI} (h : Srt w p l) : (l.map (key2 w p)).Nodup := by
 unfold List.Nodup
 rw [List.pairwise_map]
 exact h.imp fun {a b} h e => by omega
theorem Srt.le {l : LI} (h : Srt w p l) : l.Pairwise fun a b => key2 w p a ≤ key2 w p b := h.imp fun {a b} h => Int.le_of_lt h
theorem SCs.perm {l m : LI} (h : SCs w p l) (hp : m.Perm l) : SCs w p m := fun x hx => h x (hp.mem_iff.1 hx)
theorem SCs.left {l m : LI} (h : SCs w p (l ++ m)) : SCs w p l := fun x hx => h x (List.mem_append_left _ hx)
theorem SCs.right {l m : LI} (h : SCs w p (l ++ m)) : SCs w p m := fun x hx => h x (List.mem_append_right _ hx)
theorem SCs.app {l m : LI} (h : SCs w p l) (h' : SCs w p m) : SCs w p (l ++ m) := fun x hx => (List.mem_append.1 hx).elim (h x) (h' x)
theorem Qp0 {l m : LI} (hl : Srt w p l) (hm : Srt w p m) (h : ∀ x ∈ l, ∀ y ∈ m, key2 w p x < key2 w p y) : Srt w p (l ++ m) := List.pairwise_append.2 ⟨hl, hm, h⟩
theorem Srt.at {l : LI} (h : Srt w p l) {i j : Nat} (hij : i < j) (hj : j < l.length) : key2 w p (l.getD i 0) < key2 w p (l.getD j 0) := by
 rw [List.getD_eq_getElem?_getD, List.getD_eq_getElem?_getD, List.getElem?_eq_getElem hj, List.getElem?_eq_getElem (show i < l.length by omega)]
 exact List.pairwise_iff_getElem.1 h i j (by omega) hj hij
theorem Srt.at_le {l : LI} (h : Srt w p l) {i j : Nat} (hij : i ≤ j) (hj : j < l.length) : key2 w p (l.getD i 0) ≤ key2 w p (l.getD j 0) := by
 rcases Nat.lt_or_eq_of_le hij with h' | rfl
 ·exact Int.le_of_lt (h.at h' hj)
 ·exact Int.le_refl _
theorem Q5i (A T : LI) (x : Int) {i : Nat} (h : i = A.length) : (A ++ x :: T).getD i 0 = x := by
 subst h
 rw [List.getD_eq_getElem?_getD, List.getElem?_append_right (Nat.le_refl _), Nat.sub_self]; rfl
theorem Q5s (A T : LI) (x y : Int) {i : Nat} (h : i = A.length) : (A ++ x :: T).set i y = A ++ y :: T := by
 subst h
 rw [List.set_append_right _ _ (Nat.le_refl _), Nat.sub_self]; rfl
theorem Q1a8 (A L T : LI) {i : Nat} (h1 : A.length ≤ i) (h2 : i < A.length + L.length) : (A ++ (L ++ T)).getD i 0 = L.getD (i - A.length) 0 := by
 rw [List.getD_eq_getElem?_getD, List.getD_eq_getElem?_getD, List.getElem?_append_right h1, List.getElem?_append_left (by omega)]
theorem Q2u {l : LI} {i : Nat} (h : i < l.length) : l.getD i 0 ∈ l := by
 rw [List.getD_eq_getElem?_getD, List.getElem?_eq_getElem h]
 exact List.getElem_mem h
def bsr (q : Nat → Bool) : Nat → Nat → Nat → Nat
 | 0, i, _ => i
 | n + 1, i, j => if i < j then (bif q ((i + j) / 2) then bsr q n ((i + j) / 2 + 1) j else bsr q n i ((i + j) / 2)) else i
theorem Q7q (q : Nat → Bool) : ∀ (n i j : Nat), j - i ≤ n → i ≤ j → (∀ c c', i ≤ c → c ≤ c' → c' < j → q c' = true → q c = true) →
  i ≤ bsr q n i j ∧ bsr q n i j ≤ j ∧ (∀ c, i ≤ c → c < bsr q n i j → q c = true) ∧ ∀ c, bsr q n i j ≤ c → c < j → q c = false
 | 0, i, j, hn, hij, _ => ⟨Nat.le_refl _, hij, fun c h1 h2 => by simp only [bsr] at h2; omega, fun c h1 h2 => by simp only [bsr] at h1; omega⟩
 | n + 1, i, j, hn, hij, ha => by
   simp only [bsr]
   by_cases h : i < j
   ·rw [if_pos h]
    cases hq : q ((i + j) / 2) with
    | true =>
      simp only [cond_true]
      obtain ⟨h1, h2, h3, h4⟩ := Q7q q n ((i + j) / 2 + 1) j (by omega) (by omega) fun c c' a1 a2 a3 => ha c c' (by omega) a2 a3
      refine ⟨by omega, h2, fun c b1 b2 => ?_, h4⟩
      by_cases hc : c ≤ (i + j) / 2
      ·exact ha c _ b1 hc (by omega) hq
      ·exact h3 c (by omega) b2
    | false =>
      simp only [cond_false]
      obtain ⟨h1, h2, h3, h4⟩ := Q7q q n i ((i + j) / 2) (by omega) (by omega) fun c c' a1 a2 a3 => ha c c' a1 a2 (by omega)
      refine ⟨h1, by omega, h3, fun c b1 b2 => ?_⟩
      by_cases hc : c < (i + j) / 2
      ·exact h4 c b1 hc
      ·cases hqc : q c with
       | false => rfl
       | true => rw [ha _ c (by omega) (by omega) b2 hqc] at hq; cases hq
   ·rw [if_neg h]
    exact ⟨Nat.le_refl _, hij, fun c b1 b2 => by omega, fun c b1 b2 => by omega⟩
theorem Qsm {i j : Nat} (hi : i ≤ 1000000) (hj : j ≤ 1000000) : IntKind.i64.wrap (Int.fdiv (IntKind.u64.wrap (IntKind.i64.wrap ((i : Int) + (j : Int)))) (2 ^ 1)) = (((i + j) / 2 : Nat) : Int) := by
 have e1 : IntKind.i64.wrap ((i : Int) + (j : Int)) = ((i + j : Nat) : Int) := by rw [IntKind.wrap_i64]; omega
 have e2 : IntKind.u64.wrap ((i + j : Nat) : Int) = ((i + j : Nat) : Int) := Go.Proofs.YtecnlienmpdlaaaGreat.Bt.wraps_u64 _ (by omega) (by omega)
 rw [e1, e2]
 have e3 : Int.fdiv ((i + j : Nat) : Int) (2 ^ 1) = (((i + j) / 2 : Nat) : Int) := by
  rw [Int.fdiv_eq_ediv_of_nonneg _ (by decide)]
  omega
 rw [e3, IntKind.wrap_i64]
 omega
theorem parts {L R : LI} (hL : Srt w p L) (hR : Srt w p R) {s e : Nat} (hs : s ≤ L.length) (he : e ≤ R.length)
  (h1 : 0 < s → e < R.length → key2 w p (L.getD (s - 1) 0) < key2 w p (R.getD e 0)) (h2 : 0 < e → s < L.length → key2 w p (R.getD (e - 1) 0) < key2 w p (L.getD s 0)) :
  ∀ x ∈ L.take s ++ R.take e, ∀ y ∈ L.drop s ++ R.drop e, key2 w p x < key2 w p y := by
 have g : ∀ (l : LI) (n : Nat) x, x ∈ l.take n → ∃ i, i < n ∧ i < l.length ∧ l.getD i 0 = x := fun l n x hx => by
  obtain ⟨i, hi, e⟩ := List.getElem_of_mem hx
  rw [List.length_take] at hi
  refine ⟨i, by omega, by omega, ?_⟩
  rw [List.getElem_take] at e
  rw [List.getD_eq_getElem?_getD, List.getElem?_eq_getElem (by omega), ← e]; rfl
 have g' : ∀ (l : LI) (n : Nat) x, x ∈ l.drop n → ∃ i, n ≤ i ∧ i < l.length ∧ l.getD i 0 = x := fun l n x hx => by
  obtain ⟨i, hi, e⟩ := List.getElem_of_mem hx
  rw [List.length_drop] at hi
  refine ⟨n + i, by omega, by omega, ?_⟩
  rw [List.getElem_drop] at e
  rw [List.getD_eq_getElem?_getD, List.getElem?_eq_getElem (by omega), ← e]; rfl
 intro x hx y hy
 rcases List.mem_append.1 hx with hx | hx <;> rcases List.mem_append.1 hy with hy | hy
 ·obtain ⟨i, a1, a2, rfl⟩ := g _ _ _ hx
  obtain ⟨j, b1, b2, rfl⟩ := g' _ _ _ hy
  exact hL.at (by omega) b2
 ·obtain ⟨i, a1, a2, rfl⟩ := g _ _ _ hx
  obtain ⟨j, b1, b2, rfl⟩ := g' _ _ _ hy
  have c1 := hL.at_le (show i ≤ s - 1 by omega) (by omega)
  have c2 := hR.at_le (show e ≤ j by omega) b2
  have c3 := h1 (by omega) (by omega)
  omega
 ·obtain ⟨i, a1, a2, rfl⟩ := g _ _ _ hx
  obtain ⟨j, b1, b2, rfl⟩ := g' _ _ _ hy
  have c1 := hR.at_le (show i ≤ e - 1 by omega) (by omega)
  have c2 := hL.at_le (show s ≤ j by omega) b2
  have c3 := h2 (by omega) (by omega)
  omega
 ·obtain ⟨i, a1, a2, rfl⟩ := g _ _ _ hx
  obtain ⟨j, b1, b2, rfl⟩ := g' _ _ _ hy
  exact hR.at (by omega) b2
theorem Srt.take {l : LI} (h : Srt w p l) (n : Nat) : Srt w p (l.take n) := h.sublist (List.take_sublist _ _)
theorem Srt.drop {l : LI} (h : Srt w p l) (n : Nat) : Srt w p (l.drop n) := h.sublist (List.drop_sublist _ _)
variable {R : Type} {b p s nx : Int} {d w x st : LI} {P : List (Int × ((Int × (Bool × (BA × (Int × (Bool × (LI × Unit)))))) × Unit))}
abbrev LFd := List (Int × ((Int × (Bool × (BA × (Int × (Bool × (LI × Unit)))))) × Unit))
abbrev KS (R : Type) := Int → Int → Int → LI → LI → LI → LI → LFd → Int → Oq R
theorem Q48 {k n : Nat} (h : n < k) : ∃ j, k = j + 1 := ⟨k - 1, by omega⟩
theorem swi {n : Int} (h0 : -9223372036854775808 ≤ n) (h1 : n < 9223372036854775808) : IntKind.i64.wrap n = n := by rw [IntKind.wrap_i64]; omega
def cmpI (u v : Int) : Int := if u < v then -1 else if u > v then 1 else 0
theorem Qhs (u v : Int) : decide (cmpI u v < 0) = decide (u < v) := by
 unfold cmpI
 rw [decide_eq_decide]
 split
 ·simp_all
 ·split <;> simp_all
theorem Q1bx {k : Nat} (hk : 1 < k) (u v : Int) (K : Int → Oq R) : f115 k u v K = K (cmpI u v) := by
 rw [Qrb]
 obtain ⟨k, rfl⟩ := Q48 (show 0 < k by omega)
 simp only [f115d, Qrr]
 obtain ⟨k, rfl⟩ := Q48 (show 0 < k by omega)
 simp only [f138d, bne_self_eq_false, cond_false, cmpI]
 by_cases h : u < v
 ·simp [h]
 ·by_cases h' : v < u <;> simp [h, h']
theorem Qi1 {k : Nat} (hk : 2 < k) (hp : 1 ≤ p) {a c : Int} (ha : SC w p a) (hc : SC w p c) (K : Int → KS R) : f114 k a c b p s d w x st P nx K = K (cmpI (keyW w p a) (keyW w p c)) b p s d w x st P nx := by
 rw [Qra]
 obtain ⟨k, rfl⟩ := Q48 (show 0 < k by omega)
 have hpz : (!(p == 0)) = true := by
  have : ¬ p = 0 := by omega
  simp [this]
 have g : ∀ n, SC w p n → IntKind.i64.wrap (Int.tdiv n p) = n / p ∧ 0 ≤ n / p := fun n h => by
  have h1 := h.lo
  have h2 := h.hi
  have h3 : 0 ≤ n / p := Int.ediv_nonneg h1 (by omega)
  have h4 : n / p ≤ n := Int.ediv_le_self _ h1
  rw [Int.tdiv_eq_ediv_of_nonneg h1]
  exact ⟨swi (by omega) (by omega), h3⟩
 have da0 : decide (0 ≤ a / p) = true := by simpa using (g a ha).2
 have da1 : decide (a / p < (w.length : Int)) = true := by simpa using ha.ix
 have dc0 : decide (0 ≤ c / p) = true := by simpa using (g c hc).2
 have dc1 : decide (c / p < (w.length : Int)) = true := by simpa using hc.ix
 simp only [f114d, hpz, cond_true, (g a ha).1, (g c hc).1, da0, da1, dc0, dc1, Bool.and_self, Q1bx (show 1 < k by omega)]
 rfl
theorem Qsh (k : Nat) (hk : 2 < k) (hp : 1 ≤ p) (x2 : LI → KS R) (y1 y2 : Int) (A : LI) (hA : A.length ≤ 4096) : ∀ (m f : Nat) (S : LI) (y : Int) (C : LI), S.length = m → m < f → S.length ≤ 4096 → SCs w p S → SC w p y →
  ∃ T U, S = T ++ U ∧ (∀ z ∈ U, keyW w p y < keyW w p z) ∧ (∀ z, T.getLast? = some z → keyW w p z ≤ keyW w p y) ∧
    Q5b k x2 (A.length : Int) y1 y2 f ((A.length + S.length : Nat) : Int) (A ++ (S ++ y :: C)) b p s d w x st P nx = x2 (A ++ (T ++ y :: (U ++ C))) b p s d w x st P nx
 | m, 0, S, _, _, _, h, _, _, _ => absurd h (Nat.not_lt_zero _)
 | 0, f + 1, S, y, C, hS, _, _, _, _ => by
   have hS := List.length_eq_zero_iff.1 hS
   subst hS
   refine ⟨[], [], rfl, fun z hz => (by cases hz), fun z hz => (by cases hz), ?_⟩
   have d0 : decide (((A.length + ([] : LI).length : Nat) : Int) > (A.length : Int)) = false := by simp
   simp only [Q5b, Qo8, d0]
   rfl
 | m + 1, f + 1, S, y, C, hS, hf, hl, hs, hy => by
   obtain ⟨T0, z, rfl⟩ : ∃ T0 z, S = T0 ++ [z] := by
    rcases List.eq_nil_or_concat S with rfl | ⟨T0, z, rfl⟩
    ·simp at hS
    ·exact ⟨T0, z, by simp⟩
   have hT0 : T0.length = m := by simpa using hS
   have hz : SC w p z := hs z (by simp)
   have el : A ++ (T0 ++ [z] ++ y :: C) = (A ++ T0) ++ z :: y :: C := by simp
   have el2 : A ++ (T0 ++ [z] ++ y :: C) = (A ++ T0 ++ [z]) ++ y :: C := by simp
   have hlen : (A ++ (T0 ++ [z] ++ y :: C)).length = A.length + T0.length + 2 + C.length := by simp; omega
   have ej : ((A.length + (T0 ++ [z]).length : Nat) : Int) = ((A.length + T0.length + 1 : Nat) : Int) := by simp; omega
   have hw : IntKind.i64.wrap (((A.length + T0.length + 1 : Nat) : Int) - 1) = ((A.length + T0.length : Nat) : Int) := by
    have : (T0 ++ [z]).length = T0.length + 1 := by simp
    rw [swi (by omega) (by omega)]; omega
   have g1 : (A ++ (T0 ++ [z] ++ y :: C)).getD (A.length + T0.length + 1) 0 = y := by rw [el2]; exact Q5i _ _ _ (by simp; omega)
   have g2 : (A ++ (T0 ++ [z] ++ y :: C)).getD (A.length + T0.length) 0 = z := by rw [el]; exact Q5i _ _ _ (by simp)
   have d0 : decide (((A.length + T0.length + 1 : Nat) : Int) > (A.length : Int)) = true := dT (by omega)
   have d1 : decide ((0 : Int) ≤ ((A.length + T0.length + 1 : Nat) : Int)) = true := dT (by omega)
   have d2 : decide (((A.length + T0.length + 1 : Nat) : Int) < ((A.length + T0.length + 2 + C.length : Nat) : Int)) = true := dT (by omega)
   have d3 : decide ((0 : Int) ≤ ((A.length + T0.length : Nat) : Int)) = true := dT (by omega)
   have d4 : decide (((A.length + T0.length : Nat) : Int) < ((A.length + T0.length + 2 + C.length : Nat) : Int)) = true := dT (by omega)
   have e1 : ((A ++ (T0 ++ [z] ++ y :: C)).set (A.length + T0.length + 1) z).set (A.length + T0.length) y = A ++ (T0 ++ y :: (z :: C)) := by
    rw [el2, Q5s _ _ _ _ (by simp; omega)]
    rw [show (A ++ T0 ++ [z]) ++ z :: C = (A ++ T0) ++ z :: z :: C by simp, Q5s _ _ _ _ (by simp)]
    simp
   rw [ej]
   simp only [Q5b, Qo8, d0, d1, d2, d3, d4, hlen, hw, cond_true, Bool.and_self, beq_self_eq_true, Int.toNat_natCast, g1, g2, Qi1 (show 2 < k by omega) hp hy hz, Qhs, List.length_set, e1]
   by_cases hlt : keyW w p y < keyW w p z
   ·simp only [hlt, decide_true, cond_true]
    obtain ⟨T, U, h1, h2, h3, h4⟩ := Qsh k hk hp x2 y1 y2 A hA m f T0 y (z :: C) hT0 (by omega) (by simp at hl; omega) (fun q hq => hs q (by simp [hq])) hy
    refine ⟨T, U ++ [z], by rw [h1]; simp, fun q hq => ?_, h3, ?_⟩
    ·rcases List.mem_append.1 hq with hq | hq
     ·exact h2 q hq
     ·rw [List.mem_singleton] at hq; rw [hq]; exact hlt
    ·refine h4.trans ?_
     simp
   ·simp only [hlt, decide_false, cond_false]
    refine ⟨T0 ++ [z], [], by simp, fun q hq => (by cases hq), fun q hq => ?_, by simp⟩
    rw [List.getLast?_append] at hq
    simp at hq
    subst hq
    omega
def Asc (l : LI) : Prop := l.Pairwise (· < ·)
theorem Qlk (k : Nat) (hk : 5000 < k) (hp : 1 ≤ p) (x0 : LI → KS R) (A : LI) : ∀ (m f : Nat) (S Y C : LI), Y.length = m → m < f → A.length + S.length + Y.length ≤ 4096 → SCs w p S → SCs w p Y → Srt w p S → Asc Y → (∀ u ∈ S, ∀ v ∈ Y, u < v) →
  ∃ M, M.Perm (S ++ Y) ∧ Srt w p M ∧ Q3d k x0 (A.length : Int) ((A.length + S.length + Y.length : Nat) : Int) f ((A.length + S.length : Nat) : Int) (A ++ (S ++ (Y ++ C))) b p s d w x st P nx = x0 (A ++ (M ++ C)) b p s d w x st P nx
 | m, 0, _, _, _, _, h, _, _, _, _, _, _ => absurd h (Nat.not_lt_zero _)
 | 0, f + 1, S, Y, C, hY, _, hl, hS, _, hso, _, _ => by
   have hY := List.length_eq_zero_iff.1 hY
   subst hY
   refine ⟨S, by simp, hso, ?_⟩
   have d0 : decide (((A.length + S.length : Nat) : Int) < ((A.length + S.length + ([] : LI).length : Nat) : Int)) = false := by simp
   simp only [Q3d, Qi5, d0, cond_false, List.nil_append]
 | m + 1, f + 1, S, [], C, hY, _, _, _, _, _, _, _ => by simp at hY
 | m + 1, f + 1, S, y :: Y, C, hY, hf, hl, hS, hYs, hso, hasc, hcr => by
   have hy : SC w p y := hYs y (List.mem_cons_self ..)
   have d0 : decide (((A.length + S.length : Nat) : Int) < ((A.length + S.length + (y :: Y).length : Nat) : Int)) = true := by simp only [List.length_cons, decide_eq_true_eq]; omega
   simp only [List.length_cons] at hl
   have hw : IntKind.i64.wrap (((A.length + S.length : Nat) : Int) + 1) = ((A.length + (S.length + 1) : Nat) : Int) := wj (by omega)
   simp only [Q3d, Qi5, d0, cond_true, Qew, hw]
   obtain ⟨T, U, h1, h2, h3, h4⟩ := Qsh k (by omega) hp (fun y2_2_3 y2_2_4 y2_2_5 y2_2_6 y2_2_7 y2_2_8 y2_2_9 y2_2_10 y2_2_11 y2_2_12 => Q3d k x0 (A.length : Int) ((A.length + S.length + (y :: Y).length : Nat) : Int) f ((A.length + (S.length + 1) : Nat) : Int) y2_2_3 y2_2_4 y2_2_5 y2_2_6 y2_2_7 y2_2_8 y2_2_9 y2_2_10 y2_2_11 y2_2_12) ((A.length + S.length + (y :: Y).length : Nat) : Int) ((A.length + S.length : Nat) : Int) A (by omega) S.length k S y (Y ++ C) rfl (by omega) (by omega) hS hy (b := b) (s := s) (nx := nx) (d := d) (x := x) (st := st) (P := P)
   have hTU : Srt w p (T ++ y :: U) := by
    rw [h1] at hso
    have hso' := List.pairwise_append.1 hso
    refine List.pairwise_append.2 ⟨hso'.1, List.pairwise_cons.2 ⟨fun z hz => ?_, hso'.2.1⟩, fun u hu v hv => ?_⟩
    ·exact (Q79 hy (hS z (by rw [h1]; simp [hz]))).2 (.inl (h2 z hz))
    ·rcases List.mem_cons.1 hv with rfl | hv
     ·have hus : SC w p u := hS u (by rw [h1]; simp [hu])
      rw [Q79 hus hy]
      obtain ⟨z, hz⟩ : ∃ z, T.getLast? = some z := by
       cases hT : T.getLast? with
       | none => rw [List.getLast?_eq_none_iff] at hT; subst hT; cases hu
       | some z => exact ⟨z, rfl⟩
      have hz1 := h3 z hz
      have hzm := List.mem_of_getLast? hz
      have hzs : SC w p z := hS z (by rw [h1]; simp [hzm])
      have huy := hcr u (by rw [h1]; simp [hu]) _ (List.mem_cons_self ..)
      have huz : key2 w p u ≤ key2 w p z := by
       obtain ⟨i, hi, rfl⟩ := List.getElem_of_mem hu
       rw [List.getLast?_eq_getElem?] at hz
       have e1 := Srt.at_le (l := T) hso'.1 (i := i) (j := T.length - 1) (by omega) (by omega)
       rw [List.getD_eq_getElem?_getD, List.getD_eq_getElem?_getD, hz, List.getElem?_eq_getElem hi] at e1
       exact e1
      by_cases he : u = z
      ·subst he; omega
      ·have : key2 w p u < key2 w p z ∨ key2 w p u = key2 w p z := by omega
       rcases this with h | h
       ·rw [Q79 hus hzs] at h; omega
       ·unfold key2 at h
        have := hus.lo; have := hus.hi; have := hzs.lo; have := hzs.hi
        omega
     ·exact hso'.2.2 u hu v hv
   have hS' : SCs w p (T ++ y :: U) := fun z hz => by
    rcases List.mem_append.1 hz with hz | hz
    ·exact hS z (by rw [h1]; simp [hz])
    ·rcases List.mem_cons.1 hz with rfl | hz
     ·exact hy
     ·exact hS z (by rw [h1]; simp [hz])
   have hlen : (T ++ y :: U).length = S.length + 1 := by rw [h1]; simp; omega
   obtain ⟨M, m1, m2, m3⟩ := Qlk k hk hp x0 A m f (T ++ y :: U) Y C (by simpa using hY) (by omega) (by rw [hlen]; omega) hS' (fun z hz => hYs z (List.mem_cons_of_mem _ hz)) hTU (List.pairwise_cons.1 hasc).2 (fun u hu v hv => by
    rcases List.mem_append.1 hu with hu | hu
    ·exact hcr u (by rw [h1]; simp [hu]) v (List.mem_cons_of_mem _ hv)
    ·rcases List.mem_cons.1 hu with rfl | hu
     ·exact (List.pairwise_cons.1 hasc).1 v hv
     ·exact hcr u (by rw [h1]; simp [hu]) v (List.mem_cons_of_mem _ hv))
   refine ⟨M, m1.trans ?_, m2, ?_⟩
   ·rw [h1]
    have e1 : T ++ y :: U ++ Y = T ++ (y :: (U ++ Y)) := by simp
    have e2 : T ++ U ++ y :: Y = T ++ (U ++ y :: Y) := by simp
    rw [e1, e2]
    exact List.Perm.append_left T (List.perm_middle.symm)
   ·refine Eq.trans ?_ m3
    rw [hlen]
    have e3 : ((A.length + S.length + (y :: Y).length : Nat) : Int) = ((A.length + (S.length + 1) + Y.length : Nat) : Int) := by simp only [List.length_cons]; omega
    rw [e3] at h4 ⊢
    refine Eq.trans ?_ (h4.trans ?_)
    ·simp
    ·have e4 : A ++ (T ++ y :: (U ++ (Y ++ C))) = A ++ (T ++ y :: U ++ (Y ++ C)) := by simp
     rw [e4]
theorem Q111 {k : Nat} (hk : 6000 < k) (hp : 1 ≤ p) (A Y C : LI) (hl : A.length + Y.length ≤ 4096) (hY : SCs w p Y) (ha : Asc Y) (K : LI → KS R) :
  ∃ M, M.Perm Y ∧ Srt w p M ∧ f148 k (A.length : Int) ((A.length + Y.length : Nat) : Int) (A ++ (Y ++ C)) b p s d w x st P nx K = K (A ++ (M ++ C)) b p s d w x st P nx := by
 rw [Qrv]
 obtain ⟨k, rfl⟩ := Q48 (show 0 < k by omega)
 simp only [f148d, Qev]
 have hw : IntKind.i64.wrap ((A.length : Int) + 1) = ((A.length + 1 : Nat) : Int) := wj (by omega)
 rw [hw]
 cases Y with
 | nil =>
   refine ⟨[], List.Perm.refl _, List.Pairwise.nil, ?_⟩
   obtain ⟨k, rfl⟩ := Q48 (show 0 < k by omega)
   have d0 : decide (((A.length + 1 : Nat) : Int) < ((A.length + ([] : LI).length : Nat) : Int)) = false := by simp only [decide_eq_false_iff_not, List.length_nil]; omega
   simp only [Q3d, Qi5, d0, cond_false]
 | cons y Y =>
   have ha' := List.pairwise_cons.1 ha
   obtain ⟨M, m1, m2, m3⟩ := Qlk k (by omega) hp (fun y0_0_0 y0_0_1 y0_0_2 y0_0_3 y0_0_4 y0_0_5 y0_0_6 y0_0_7 y0_0_8 y0_0_9 => (K y0_0_0 y0_0_1 y0_0_2 y0_0_3 y0_0_4 y0_0_5 y0_0_6 y0_0_7 y0_0_8 y0_0_9)) A Y.length k [y] Y C rfl (by simp at hl; omega) (by simp at hl ⊢; omega) (fun z hz => by rw [List.mem_singleton] at hz; rw [hz]; exact hY y (List.mem_cons_self ..)) (fun z hz => hY z (List.mem_cons_of_mem _ hz)) (List.pairwise_singleton _ _) ha'.2 (fun u hu v hv => by rw [List.mem_singleton] at hu; rw [hu]; exact ha'.1 v hv) (b := b) (s := s) (nx := nx) (d := d) (x := x) (st := st) (P := P)
   refine ⟨M, m1, m2, ?_⟩
   have e1 : ((A.length + (y :: Y).length : Nat) : Int) = ((A.length + [y].length + Y.length : Nat) : Int) := by simp only [List.length_cons, List.length_nil]; omega
   rw [e1]
   exact m3
variable {R : Type} {b p s nx : Int} {d w x st : LI} {P : LFd}
theorem Qmt (k : Nat) (x0 : LI → Oq R) (a c n : Nat) (ha : a ≤ 4096) (hc : c ≤ 4096) (hn : n ≤ 4096) (C : LI) : ∀ (X Z A Y : LI) (i f : Nat), X.length = Z.length → i + X.length = n → X.length < f → a + i = A.length → c + i = A.length + X.length + Y.length →
  Q5g k x0 (a : Int) (c : Int) (n : Int) b p s d w x st P nx f (i : Int) (A ++ (X ++ (Y ++ (Z ++ C)))) = x0 (A ++ (Z ++ (Y ++ (X ++ C))))
 | X, Z, A, Y, i, 0, _, _, h, _, _ => absurd h (Nat.not_lt_zero _)
 | [], Z, A, Y, i, f + 1, hZ, hi, _, _, _ => by
   have hZ := List.length_eq_zero_iff.1 hZ.symm
   subst hZ
   have d0 : decide ((i : Int) < (n : Int)) = false := by simp at hi; simp only [decide_eq_false_iff_not]; omega
   simp only [Q5g, Qob, d0, cond_false]
 | x1 :: X, [], A, Y, i, f + 1, hZ, _, _, _, _ => by simp at hZ
 | x1 :: X, z :: Z, A, Y, i, f + 1, hZ, hi, hf, h1, h2 => by
   simp only [List.length_cons] at hZ hi hf h2
   have d0 : decide ((i : Int) < (n : Int)) = true := dT (by omega)
   have w1 : IntKind.i64.wrap ((c : Int) + (i : Int)) = ((c + i : Nat) : Int) := wj (by omega)
   have w2 : IntKind.i64.wrap ((a : Int) + (i : Int)) = ((a + i : Nat) : Int) := wj (by omega)
   have w3 : IntKind.i64.wrap ((i : Int) + 1) = ((i + 1 : Nat) : Int) := wj (by omega)
   have el : A ++ (x1 :: X ++ (Y ++ (z :: Z ++ C))) = A ++ x1 :: (X ++ (Y ++ z :: (Z ++ C))) := by simp
   have el2 : ∀ q, A ++ q :: (X ++ (Y ++ z :: (Z ++ C))) = (A ++ q :: (X ++ Y)) ++ z :: (Z ++ C) := fun q => by simp
   have hlen : (A ++ x1 :: (X ++ (Y ++ z :: (Z ++ C)))).length = A.length + X.length + Y.length + Z.length + C.length + 2 := by simp; omega
   have g1 : (A ++ x1 :: (X ++ (Y ++ z :: (Z ++ C)))).getD (a + i) 0 = x1 := Q5i _ _ _ h1
   have g2 : (A ++ x1 :: (X ++ (Y ++ z :: (Z ++ C)))).getD (c + i) 0 = z := by rw [el2]; exact Q5i _ _ _ (by simp; omega)
   have d1 : decide ((0 : Int) ≤ ((c + i : Nat) : Int)) = true := dT (by omega)
   have d2 : decide (((c + i : Nat) : Int) < ((A.length + X.length + Y.length + Z.length + C.length + 2 : Nat) : Int)) = true := dT (by omega)
   have d3 : decide ((0 : Int) ≤ ((a + i : Nat) : Int)) = true := dT (by omega)
   have d4 : decide (((a + i : Nat) : Int) < ((A.length + X.length + Y.length + Z.length + C.length + 2 : Nat) : Int)) = true := dT (by omega)
   have e1 : ((A ++ x1 :: (X ++ (Y ++ z :: (Z ++ C)))).set (a + i) z).set (c + i) x1 = (A ++ [z]) ++ (X ++ ((Y ++ [x1]) ++ (Z ++ C))) := by
    rw [Q5s _ _ _ _ h1, el2, Q5s _ _ _ _ (by simp; omega)]
    simp
   rw [el]
   simp only [Q5g, Qob, d0, d1, d2, d3, d4, hlen, w1, w2, w3, cond_true, Bool.and_self, Int.toNat_natCast, g1, g2, List.length_set, e1]
   refine (Qmt k x0 a c n ha hc hn C X Z (A ++ [z]) (Y ++ [x1]) (i + 1) f (by omega) (by omega) (by omega) (by simp; omega) (by simp; omega)).trans ?_
   simp
theorem Qoc {k : Nat} (hk : 5000 < k) (A X Y Z C : LI) (hXZ : X.length = Z.length) (hl : A.length + X.length + Y.length + Z.length ≤ 4096) {a c n : Int} (ha : a = (A.length : Int)) (hc : c = ((A.length + X.length + Y.length : Nat) : Int)) (hn : n = (X.length : Int)) (K : LI → KS R) :
  f202 k a c n (A ++ (X ++ (Y ++ (Z ++ C)))) b p s d w x st P nx K = K (A ++ (Z ++ (Y ++ (X ++ C)))) b p s d w x st P nx := by
 subst ha hc hn
 rw [Qs4]
 obtain ⟨k, rfl⟩ := Q48 (show 0 < k by omega)
 simp only [f202d, Qf3]
 exact Qmt k _ A.length (A.length + X.length + Y.length) X.length (by omega) (by omega) (by omega) C X Z A Y 0 k hXZ (by omega) (by omega) (by omega) (by omega)
theorem Qdw (k : Nat) (hk : 5000 < k) (x0 : Int → LI → KS R) (m : Nat) (hm : m ≤ 4096) : ∀ (q f : Nat) (A L Q C : LI), L.length + Q.length ≤ q → q < f → 0 < L.length → 0 < Q.length → A.length + L.length = m → A.length + L.length + Q.length ≤ 4096 →
  ∃ (i : Nat) (A' L' Q' C' : LI), L'.length = i ∧ Q'.length = i ∧ A'.length + i = m ∧ A' ++ (Q' ++ (L' ++ C')) = A ++ (Q ++ (L ++ C)) ∧ A'.length + i + i ≤ 4096 ∧
    Q41 k x0 (m : Int) f (L.length : Int) (Q.length : Int) (A ++ (L ++ (Q ++ C))) b p s d w x st P nx = x0 (i : Int) (A' ++ (L' ++ (Q' ++ C'))) b p s d w x st P nx
 | q, 0, _, _, _, _, _, h, _, _, _, _ => absurd h (Nat.not_lt_zero _)
 | 0, f + 1, _, L, Q, _, h, _, h1, _, _, _ => by omega
 | q + 1, f + 1, A, L, Q, C, hq, hf, hL, hQ, hA, hl => by
   rcases Nat.lt_trichotomy L.length Q.length with hlt | heq | hgt
   ·-- the right one is longer
    have d0 : ((L.length : Int) != (Q.length : Int)) = true := by simp; omega
    have d1 : decide ((L.length : Int) > (Q.length : Int)) = false := dF (by omega)
    obtain ⟨Q1, Q2, rfl, hQ2⟩ : ∃ Q1 Q2, Q = Q1 ++ Q2 ∧ Q2.length = L.length := ⟨Q.take (Q.length - L.length), Q.drop (Q.length - L.length), by simp, by simp; omega⟩
    have hQl : (Q1 ++ Q2).length = Q1.length + Q2.length := List.length_append
    have el : A ++ (L ++ (Q1 ++ Q2 ++ C)) = A ++ (L ++ (Q1 ++ (Q2 ++ C))) := by simp
    have w1 : IntKind.i64.wrap ((m : Int) - (L.length : Int)) = (A.length : Int) := wj (by omega)
    have w2 : IntKind.i64.wrap (IntKind.i64.wrap ((m : Int) + ((Q1 ++ Q2).length : Int)) - (L.length : Int)) = ((A.length + L.length + Q1.length : Nat) : Int) := by
     rw [swi (show -9223372036854775808 ≤ (m : Int) + ((Q1 ++ Q2).length : Int) by omega) (by omega), swi (by omega) (by omega)]; omega
    have w3 : IntKind.i64.wrap (((Q1 ++ Q2).length : Int) - (L.length : Int)) = (Q1.length : Int) := wj (by omega)
    simp only [Q41, Qid, d0, d1, cond_true, Q5f, Q83, cond_false, el]
    rw [Qoc hk A L Q1 Q2 C hQ2.symm (by omega) w1 w2 rfl]
    have d2 : decide ((A ++ (Q2 ++ (Q1 ++ (L ++ C)))).length = (A ++ (L ++ (Q1 ++ (Q2 ++ C)))).length) = true := by simp; omega
    simp only [d2, Bool.and_self, cond_true, w3]
    obtain ⟨i, A', L', Q', C', h1, h2, h3, h4, h5, h6⟩ := Qdw k hk x0 m hm q f A Q2 Q1 (L ++ C) (by omega) (by omega) (by omega) (by omega) (by omega) (by omega)
    refine ⟨i, A', L', Q', C', h1, h2, h3, h4.trans (by simp), h5, ?_⟩
    rw [← hQ2]
    exact h6
   ·have d0 : ((L.length : Int) != (Q.length : Int)) = false := by simp; omega
    simp only [Q41, Qid, d0, cond_false]
    exact ⟨L.length, A, L, Q, C, rfl, heq.symm, hA, rfl, by omega, rfl⟩
   ·-- the left one is longer
    have d0 : ((L.length : Int) != (Q.length : Int)) = true := by simp; omega
    have d1 : decide ((L.length : Int) > (Q.length : Int)) = true := dT (by omega)
    obtain ⟨L1, L2, rfl, hL1⟩ : ∃ L1 L2, L = L1 ++ L2 ∧ L1.length = Q.length := ⟨L.take Q.length, L.drop Q.length, by simp, by simp; omega⟩
    have hLl : (L1 ++ L2).length = L1.length + L2.length := List.length_append
    have el : A ++ (L1 ++ L2 ++ (Q ++ C)) = A ++ (L1 ++ (L2 ++ (Q ++ C))) := by simp
    have w1 : IntKind.i64.wrap ((m : Int) - ((L1 ++ L2).length : Int)) = (A.length : Int) := wj (by omega)
    have w3 : IntKind.i64.wrap (((L1 ++ L2).length : Int) - (Q.length : Int)) = (L2.length : Int) := wj (by omega)
    simp only [Q41, Qid, d0, d1, cond_true, Q5f, Q83, el]
    rw [Qoc hk A L1 L2 Q C hL1 (by omega) w1 (show (m : Int) = ((A.length + L1.length + L2.length : Nat) : Int) by omega) (show (Q.length : Int) = (L1.length : Int) by omega)]
    have d2 : decide ((A ++ (Q ++ (L2 ++ (L1 ++ C)))).length = (A ++ (L1 ++ (L2 ++ (Q ++ C)))).length) = true := by simp; omega
    simp only [d2, Bool.and_self, cond_true, w3]
    obtain ⟨i, A', L', Q', C', h1, h2, h3, h4, h5, h6⟩ := Qdw k hk x0 m hm q f (A ++ Q) L2 L1 C (by omega) (by omega) (by omega) (by omega) (by simp; omega) (by simp; omega)
    refine ⟨i, A', L', Q', C', h1, h2, h3, h4.trans (by simp), h5, ?_⟩
    rw [← hL1]
    refine Eq.trans ?_ h6
    simp
theorem Q1c4 {k : Nat} (hk : 9000 < k) (A L Q C : LI) (hL : 0 < L.length) (hQ : 0 < Q.length) (hl : A.length + L.length + Q.length ≤ 4096) {a m e : Int} (ha : a = (A.length : Int)) (hm : m = ((A.length + L.length : Nat) : Int)) (he : e = ((A.length + L.length + Q.length : Nat) : Int)) (K : LI → KS R) :
  f186 k a m e (A ++ (L ++ (Q ++ C))) b p s d w x st P nx K = K (A ++ (Q ++ (L ++ C))) b p s d w x st P nx := by
 subst ha hm he
 rw [Qs2]
 obtain ⟨k, rfl⟩ := Q48 (show 0 < k by omega)
 have w1 : IntKind.i64.wrap (((A.length + L.length : Nat) : Int) - (A.length : Int)) = (L.length : Int) := wj (by omega)
 have w2 : IntKind.i64.wrap (((A.length + L.length + Q.length : Nat) : Int) - ((A.length + L.length : Nat) : Int)) = (Q.length : Int) := wj (by omega)
 simp only [f186d, Qf2, w1, w2]
 obtain ⟨i, A', L', Q', C', h1, h2, h3, h4, h5, h6⟩ := Qdw k (by omega) (fun y0_0_1 y0_0_2 y0_0_3 y0_0_4 y0_0_5 y0_0_6 y0_0_7 y0_0_8 y0_0_9 y0_0_10 y0_0_11 => (f202 k (IntKind.i64.wrap (((A.length + L.length : Nat) : Int) - y0_0_1)) ((A.length + L.length : Nat) : Int) y0_0_1 y0_0_2 y0_0_3 y0_0_4 y0_0_5 y0_0_6 y0_0_7 y0_0_8 y0_0_9 y0_0_10 y0_0_11 (fun r18439_0 r18439_1 r18439_2 r18439_3 r18439_4 r18439_5 r18439_6 r18439_7 r18439_8 r18439_9 => (bif (decide (r18439_0.length = y0_0_2.length) && true) then (K r18439_0 r18439_1 r18439_2 r18439_3 r18439_4 r18439_5 r18439_6 r18439_7 r18439_8 r18439_9) else none)))) (A.length + L.length) (by omega) (L.length + Q.length) k A L Q C (Nat.le_refl _) (by omega) hL hQ rfl hl (b := b) (p := p) (s := s) (nx := nx) (d := d) (w := w) (x := x) (st := st) (P := P)
 refine h6.trans ?_
 have w3 : IntKind.i64.wrap (((A.length + L.length : Nat) : Int) - (i : Int)) = (A'.length : Int) := wj (by omega)
 have := Qoc (R := R) (k := k) (by omega) A' L' [] Q' C' (by omega) (by simp; omega) (a := IntKind.i64.wrap (((A.length + L.length : Nat) : Int) - (i : Int))) (c := ((A.length + L.length : Nat) : Int)) (n := (i : Int)) w3 (by simp; omega) (by omega) (b := b) (p := p) (s := s) (nx := nx) (d := d) (w := w) (x := x) (st := st) (P := P)
 simp only [List.nil_append] at this
 refine (this _).trans ?_
 have d2 : decide ((A' ++ (Q' ++ (L' ++ C'))).length = (A' ++ (L' ++ (Q' ++ C'))).length) = true := by simp; omega
 rw [h4] at d2
 simp only [h4, d2, Bool.and_self, cond_true]
theorem Q152 (k : Nat) (x2 : LI → Oq R) (n : Nat) (hn : n ≤ 4096) (u : Int) : ∀ (R1 : LI) (f : Nat) (A C : LI), R1.length < f → n = A.length + R1.length + 1 →
  Q5c k x2 (n : Int) b p s d w x st P nx f (A.length : Int) (A ++ u :: (R1 ++ C)) = x2 (A ++ (R1 ++ u :: C))
 | R1, 0, _, _, h, _ => absurd h (Nat.not_lt_zero _)
 | [], f + 1, A, C, _, hn' => by
   have w0 : IntKind.i64.wrap ((n : Int) - 1) = (A.length : Int) := by simp at hn'; rw [swi (by omega) (by omega)]; omega
   have d0 : decide ((A.length : Int) < (A.length : Int)) = false := by simp
   simp only [Q5c, Qo9, w0, d0, cond_false, List.nil_append]
 | v :: R1, f + 1, A, C, hf, hn' => by
   simp only [List.length_cons] at hf hn'
   have w0 : IntKind.i64.wrap ((n : Int) - 1) = ((A.length + R1.length + 1 : Nat) : Int) := wj (by omega)
   have d0 : decide ((A.length : Int) < ((A.length + R1.length + 1 : Nat) : Int)) = true := dT (by omega)
   have w1 : IntKind.i64.wrap ((A.length : Int) + 1) = ((A.length + 1 : Nat) : Int) := wj (by omega)
   have el : A ++ u :: (v :: R1 ++ C) = A ++ u :: (v :: (R1 ++ C)) := by simp
   have el2 : ∀ q r, A ++ q :: (r :: (R1 ++ C)) = (A ++ [q]) ++ r :: (R1 ++ C) := fun q r => by simp
   have hlen : (A ++ u :: (v :: (R1 ++ C))).length = A.length + R1.length + C.length + 2 := by simp; omega
   have g1 : (A ++ u :: (v :: (R1 ++ C))).getD A.length 0 = u := Q5i _ _ _ rfl
   have g2 : (A ++ u :: (v :: (R1 ++ C))).getD (A.length + 1) 0 = v := by rw [el2]; exact Q5i _ _ _ (by simp)
   have d1 : decide ((0 : Int) ≤ ((A.length + 1 : Nat) : Int)) = true := dT (by omega)
   have d2 : decide (((A.length + 1 : Nat) : Int) < ((A.length + R1.length + C.length + 2 : Nat) : Int)) = true := dT (by omega)
   have d3 : decide ((0 : Int) ≤ (A.length : Int)) = true := by simp
   have d4 : decide ((A.length : Int) < ((A.length + R1.length + C.length + 2 : Nat) : Int)) = true := dT (by omega)
   have e1 : ((A ++ u :: (v :: (R1 ++ C))).set A.length v).set (A.length + 1) u = (A ++ [v]) ++ u :: (R1 ++ C) := by
    rw [Q5s _ _ _ _ rfl, el2, Q5s _ _ _ _ (by simp)]
   rw [el]
   simp only [Q5c, Qo9, w0, d0, w1, d1, d2, d3, d4, hlen, cond_true, Bool.and_self, Int.toNat_natCast, g1, g2, List.length_set, e1]
   have := Q152 k x2 n hn u R1 f (A ++ [v]) C (by omega) (by simp; omega)
   simp only [List.length_append, List.length_cons, List.length_nil, Nat.zero_add] at this
   refine this.trans ?_
   simp
theorem Qkb (k : Nat) (x6 : LI → Oq R) (u : Int) (A : LI) : ∀ (q f : Nat) (L2 C : LI), L2.length = q → q < f → A.length + L2.length ≤ 4096 →
  Q5d k x6 (A.length : Int) b p s d w x st P nx f ((A.length + L2.length : Nat) : Int) (A ++ (L2 ++ u :: C)) = x6 (A ++ u :: (L2 ++ C))
 | q, 0, _, _, _, h, _ => absurd h (Nat.not_lt_zero _)
 | 0, f + 1, L2, C, hL, _, _ => by
   have hL := List.length_eq_zero_iff.1 hL
   subst hL
   have d0 : decide (((A.length + ([] : LI).length : Nat) : Int) > (A.length : Int)) = false := by simp
   simp only [Q5d, Qoa, d0, cond_false, List.nil_append]
 | q + 1, f + 1, L2, C, hL, hf, hl => by
   obtain ⟨T0, z, rfl⟩ : ∃ T0 z, L2 = T0 ++ [z] := by
    rcases List.eq_nil_or_concat L2 with rfl | ⟨T0, z, rfl⟩
    ·simp at hL
    ·exact ⟨T0, z, by simp⟩
   have hT0 : T0.length = q := by simpa using hL
   have hLL : (T0 ++ [z]).length = T0.length + 1 := by simp
   have el : A ++ (T0 ++ [z] ++ u :: C) = (A ++ T0) ++ z :: u :: C := by simp
   have el2 : A ++ (T0 ++ [z] ++ u :: C) = (A ++ T0 ++ [z]) ++ u :: C := by simp
   have hlen : (A ++ (T0 ++ [z] ++ u :: C)).length = A.length + T0.length + 2 + C.length := by simp; omega
   have ej : ((A.length + (T0 ++ [z]).length : Nat) : Int) = ((A.length + T0.length + 1 : Nat) : Int) := by simp; omega
   have hw : IntKind.i64.wrap (((A.length + T0.length + 1 : Nat) : Int) - 1) = ((A.length + T0.length : Nat) : Int) := by
    rw [swi (by omega) (by omega)]; omega
   have g1 : (A ++ (T0 ++ [z] ++ u :: C)).getD (A.length + T0.length + 1) 0 = u := by rw [el2]; exact Q5i _ _ _ (by simp; omega)
   have g2 : (A ++ (T0 ++ [z] ++ u :: C)).getD (A.length + T0.length) 0 = z := by rw [el]; exact Q5i _ _ _ (by simp)
   have d0 : decide (((A.length + T0.length + 1 : Nat) : Int) > (A.length : Int)) = true := dT (by omega)
   have d1 : decide ((0 : Int) ≤ ((A.length + T0.length + 1 : Nat) : Int)) = true := dT (by omega)
   have d2 : decide (((A.length + T0.length + 1 : Nat) : Int) < ((A.length + T0.length + 2 + C.length : Nat) : Int)) = true := dT (by omega)
   have d3 : decide ((0 : Int) ≤ ((A.length + T0.length : Nat) : Int)) = true := dT (by omega)
   have d4 : decide (((A.length + T0.length : Nat) : Int) < ((A.length + T0.length + 2 + C.length : Nat) : Int)) = true := dT (by omega)
   have e1 : ((A ++ (T0 ++ [z] ++ u :: C)).set (A.length + T0.length + 1) z).set (A.length + T0.length) u = A ++ (T0 ++ u :: (z :: C)) := by
    rw [el2, Q5s _ _ _ _ (by simp; omega)]
    rw [show (A ++ T0 ++ [z]) ++ z :: C = (A ++ T0) ++ z :: z :: C by simp, Q5s _ _ _ _ (by simp)]
    simp
   rw [ej]
   simp only [Q5d, Qoa, d0, d1, d2, d3, d4, hlen, hw, cond_true, Bool.and_self, Int.toNat_natCast, g1, g2, List.length_set, e1]
   refine (Qkb k x6 u A q f T0 (z :: C) hT0 (by omega) (by omega)).trans ?_
   simp
theorem half0 (k : Nat) (hk : 2 < k) (hp : 1 ≤ p) (x0 : Int → KS R) (l : LI) (hl : l.length ≤ 4096) (a : Nat) (ha : a < l.length) (hs : ∀ i, i < l.length → SC w p (l.getD i 0)) : ∀ (m f i j : Nat), j - i ≤ m → m < f → i ≤ j → j ≤ l.length →
  Q3x k x0 (a : Int) l f (i : Int) (j : Int) b p s d w x st P nx = x0 (bsr (fun c => decide (keyW w p (l.getD c 0) < keyW w p (l.getD a 0))) m i j : Int) b p s d w x st P nx
 | m, 0, i, j, _, h, _, _ => absurd h (Nat.not_lt_zero _)
 | 0, f + 1, i, j, hm, _, hij, hj => by
   have d0 : decide ((i : Int) < (j : Int)) = false := dF (by omega)
   simp only [Q3x, Qi6, d0, cond_false, bsr]
 | m + 1, f + 1, i, j, hm, hf, hij, hj => by
   by_cases h : i < j
   ·have d0 : decide ((i : Int) < (j : Int)) = true := dT (by omega)
    have d1 : decide ((0 : Int) ≤ (((i + j) / 2 : Nat) : Int)) = true := dT (by omega)
    have d2 : decide ((((i + j) / 2 : Nat) : Int) < (l.length : Int)) = true := dT (by omega)
    have d3 : decide ((0 : Int) ≤ (a : Int)) = true := by simp
    have d4 : decide ((a : Int) < (l.length : Int)) = true := dT (by omega)
    have w1 : IntKind.i64.wrap ((((i + j) / 2 : Nat) : Int) + 1) = (((i + j) / 2 + 1 : Nat) : Int) := wj (by omega)
    simp only [Q3x, Qi6, d0, d1, d2, d3, d4, cond_true, Qsm (show i ≤ 1000000 by omega) (show j ≤ 1000000 by omega), Bool.and_self, Int.toNat_natCast, Qi1 hk hp (hs _ (show (i + j) / 2 < l.length by omega)) (hs a ha), Qhs, Q9y, Qbt, w1, bsr, if_pos h]
    cases decide (keyW w p (l.getD ((i + j) / 2) 0) < keyW w p (l.getD a 0)) with
    | true => exact half0 k hk hp x0 l hl a ha hs m f _ j (by omega) (by omega) (by omega) hj
    | false => exact half0 k hk hp x0 l hl a ha hs m f i _ (by omega) (by omega) (by omega) (by omega)
   ·have d0 : decide ((i : Int) < (j : Int)) = false := dF (by omega)
    simp only [Q3x, Qi6, d0, cond_false, bsr, if_neg h]
theorem half4 (k : Nat) (hk : 2 < k) (hp : 1 ≤ p) (x0 : Int → KS R) (l : LI) (hl : l.length ≤ 4096) (a : Nat) (ha : a < l.length) (hs : ∀ i, i < l.length → SC w p (l.getD i 0)) : ∀ (m f i j : Nat), j - i ≤ m → m < f → i ≤ j → j ≤ l.length →
  Q3y k x0 (a : Int) l f (i : Int) (j : Int) b p s d w x st P nx = x0 (bsr (fun c => !decide (keyW w p (l.getD a 0) < keyW w p (l.getD c 0))) m i j : Int) b p s d w x st P nx
 | m, 0, i, j, _, h, _, _ => absurd h (Nat.not_lt_zero _)
 | 0, f + 1, i, j, hm, _, hij, hj => by
   have d0 : decide ((i : Int) < (j : Int)) = false := dF (by omega)
   simp only [Q3y, Qi7, d0, cond_false, bsr]
 | m + 1, f + 1, i, j, hm, hf, hij, hj => by
   by_cases h : i < j
   ·have d0 : decide ((i : Int) < (j : Int)) = true := dT (by omega)
    have d1 : decide ((0 : Int) ≤ (((i + j) / 2 : Nat) : Int)) = true := dT (by omega)
    have d2 : decide ((((i + j) / 2 : Nat) : Int) < (l.length : Int)) = true := dT (by omega)
    have d3 : decide ((0 : Int) ≤ (a : Int)) = true := by simp
    have d4 : decide ((a : Int) < (l.length : Int)) = true := dT (by omega)
    have w1 : IntKind.i64.wrap ((((i + j) / 2 : Nat) : Int) + 1) = (((i + j) / 2 + 1 : Nat) : Int) := wj (by omega)
    simp only [Q3y, Qi7, d0, d1, d2, d3, d4, cond_true, Qsm (show i ≤ 1000000 by omega) (show j ≤ 1000000 by omega), Bool.and_self, Int.toNat_natCast, Qi1 hk hp (hs a ha) (hs _ (show (i + j) / 2 < l.length by omega)), Qhs, Q9z, Qbu, w1, bsr, if_pos h]
    cases decide (keyW w p (l.getD a 0) < keyW w p (l.getD ((i + j) / 2) 0)) with
    | false => exact half4 k hk hp x0 l hl a ha hs m f _ j (by omega) (by omega) (by omega) hj
    | true => exact half4 k hk hp x0 l hl a ha hs m f i _ (by omega) (by omega) (by omega) (by omega)
   ·have d0 : decide ((i : Int) < (j : Int)) = false := dF (by omega)
    simp only [Q3y, Qi7, d0, cond_false, bsr, if_neg h]
theorem half8 (k : Nat) (hk : 2 < k) (hp : 1 ≤ p) (x0 : Int → KS R) (l : LI) (hl : l.length ≤ 4096) (y1 y2 y3 y4 y5 : Int) (q0 : Nat) (hq : q0 ≤ 100000) (hs : ∀ i, i < l.length → SC w p (l.getD i 0)) : ∀ (m f i j : Nat), j - i ≤ m → m < f → i ≤ j → j ≤ l.length → (∀ c, i ≤ c → c < j → c ≤ q0 ∧ q0 - c < l.length) →
  Q3z k x0 y1 y2 y3 y4 y5 (q0 : Int) l f (i : Int) (j : Int) b p s d w x st P nx = x0 (bsr (fun c => !decide (keyW w p (l.getD (q0 - c) 0) < keyW w p (l.getD c 0))) m i j : Int) b p s d w x st P nx
 | m, 0, i, j, _, h, _, _, _ => absurd h (Nat.not_lt_zero _)
 | 0, f + 1, i, j, hm, _, hij, hj, _ => by
   have d0 : decide ((i : Int) < (j : Int)) = false := dF (by omega)
   simp only [Q3z, Qi8, d0, cond_false, bsr]
 | m + 1, f + 1, i, j, hm, hf, hij, hj, hc => by
   by_cases h : i < j
   ·have h' := hc ((i + j) / 2) (by omega) (by omega)
    have d0 : decide ((i : Int) < (j : Int)) = true := dT (by omega)
    have d1 : decide ((0 : Int) ≤ (((i + j) / 2 : Nat) : Int)) = true := dT (by omega)
    have d2 : decide ((((i + j) / 2 : Nat) : Int) < (l.length : Int)) = true := dT (by omega)
    have d3 : decide ((0 : Int) ≤ ((q0 - (i + j) / 2 : Nat) : Int)) = true := dT (by omega)
    have d4 : decide (((q0 - (i + j) / 2 : Nat) : Int) < (l.length : Int)) = true := dT (by omega)
    have w1 : IntKind.i64.wrap ((((i + j) / 2 : Nat) : Int) + 1) = (((i + j) / 2 + 1 : Nat) : Int) := wj (by omega)
    have w2 : IntKind.i64.wrap ((q0 : Int) - (((i + j) / 2 : Nat) : Int)) = ((q0 - (i + j) / 2 : Nat) : Int) := wj (by omega)
    simp only [Q3z, Qi8, d0, d1, d2, d3, d4, cond_true, Qsm (show i ≤ 1000000 by omega) (show j ≤ 1000000 by omega), w2, Bool.and_self, Int.toNat_natCast, Qi1 hk hp (hs _ h'.2) (hs _ (show (i + j) / 2 < l.length by omega)), Qhs, Qa0, Qbv, w1, bsr, if_pos h]
    cases decide (keyW w p (l.getD (q0 - (i + j) / 2) 0) < keyW w p (l.getD ((i + j) / 2) 0)) with
    | false => exact half8 k hk hp x0 l hl y1 y2 y3 y4 y5 q0 hq hs m f _ j (by omega) (by omega) (by omega) hj (fun c a1 a2 => hc c (by omega) a2)
    | true => exact half8 k hk hp x0 l hl y1 y2 y3 y4 y5 q0 hq hs m f i _ (by omega) (by omega) (by omega) (by omega) (fun c a1 a2 => hc c a1 (by omega))
   ·have d0 : decide ((i : Int) < (j : Int)) = false := dF (by omega)
    simp only [Q3z, Qi8, d0, cond_false, bsr, if_neg h]
abbrev RC (R : Type) := Int → Int → Int → LI → Int → Int → Int → LI → LI → LI → LI → LFd → Int → (LI → KS R) → Oq R
noncomputable def mrg2 (rc : RC R) (mid e b' : Int) (l : LI) (b p s : Int) (d w x st : LI) (P : LFd) (nx : Int) (K : LI → KS R) : Oq R :=
 bif (decide (mid < e) == true) then (bif decide (e < b') then rc mid e b' l b p s d w x st P nx (fun q0 q1 q2 q3 q4 q5 q6 q7 q8 q9 => (bif (decide (q0.length = l.length) && true) then (K q0 q1 q2 q3 q4 q5 q6 q7 q8 q9) else none)) else K l b p s d w x st P nx) else K l b p s d w x st P nx
noncomputable def mrg1 (rc : RC R) (a c mid e b' : Int) (l : LI) (b p s : Int) (d w x st : LI) (P : LFd) (nx : Int) (K : LI → KS R) : Oq R :=
 bif (decide (a < c) == true) then (bif decide (c < mid) then rc a c mid l b p s d w x st P nx (fun q0 q1 q2 q3 q4 q5 q6 q7 q8 q9 => (bif (decide (q0.length = l.length) && true) then (mrg2 rc mid e b' q0 q1 q2 q3 q4 q5 q6 q7 q8 q9 K) else none)) else mrg2 rc mid e b' l b p s d w x st P nx K) else mrg2 rc mid e b' l b p s d w x st P nx K
abbrev hlf (i j : Int) : Int := IntKind.i64.wrap (Int.fdiv (IntKind.u64.wrap (IntKind.i64.wrap (i + j))) (2 ^ 1))
theorem Qic (k : Nat) (rc : RC R) (a0 a1 a2 : Int) (l : LI) (K : LI → KS R) : f149b k rc a0 a1 a2 l b p s d w x st P nx K =
  bif (IntKind.i64.wrap (a1 - a0) == 1) then (Qrw k (fun y b p s d w x st P nx => Qrx k (fun l' => K l' b p s d w x st P nx) y b p s d w x st P nx k a0 l) a0 l k a1 a2 b p s d w x st P nx)
  else bif (IntKind.i64.wrap (a2 - a1) == 1) then (Qry k (fun y b p s d w x st P nx => Qrz k (fun l' => K l' b p s d w x st P nx) y b p s d w x st P nx k a1 l) a1 l k a0 a1 b p s d w x st P nx)
  else Q7z k (fun s0 r0 => Qs0 k (fun e5 b p s d w x st P nx => bif (decide (e5 < a1) == true) then (Q40 k (fun l' b p s d w x st P nx => mrg1 rc a0 e5 (hlf a0 a2) (IntKind.i64.wrap (IntKind.i64.wrap (hlf a0 a2 + a1) - e5)) a2 l' b p s d w x st P nx K) a1 e5 (IntKind.i64.wrap (IntKind.i64.wrap (hlf a0 a2 + a1) - e5)) (decide (a1 < IntKind.i64.wrap (IntKind.i64.wrap (hlf a0 a2 + a1) - e5))) l b p s d w x st P nx)
   else (Q40 k (fun l' b p s d w x st P nx => mrg1 rc a0 e5 (hlf a0 a2) (IntKind.i64.wrap (IntKind.i64.wrap (hlf a0 a2 + a1) - e5)) a2 l' b p s d w x st P nx K) a1 e5 (IntKind.i64.wrap (IntKind.i64.wrap (hlf a0 a2 + a1) - e5)) false l b p s d w x st P nx)) a0 a1 a2 (hlf a0 a2) (IntKind.i64.wrap (hlf a0 a2 + a1)) (IntKind.i64.wrap (IntKind.i64.wrap (hlf a0 a2 + a1) - 1)) l k s0 r0 b p s d w x st P nx) a0 a1 a2 (hlf a0 a2) (IntKind.i64.wrap (hlf a0 a2 + a1)) (decide (a1 > hlf a0 a2)) := rfl
theorem Qnf {u v : Int} (hu : SC w p u) (hv : SC w p v) (h : keyW w p u = keyW w p v → u < v) : decide (keyW w p v < keyW w p u) = decide (key2 w p v < key2 w p u) := by
 rw [decide_eq_decide]
 exact Q1cs hu hv h
theorem wi1 {a c : Nat} (h : a ≤ c) (hc : c ≤ 1000000) : IntKind.i64.wrap ((c : Int) - (a : Int)) = ((c - a : Nat) : Int) := wj (by omega)
theorem wi2 {a c : Nat} (h : a ≤ 1000000) (hc : c ≤ 1000000) : IntKind.i64.wrap ((a : Int) + (c : Int)) = ((a + c : Nat) : Int) := wj (by omega)
set_option maxHeartbeats 4000000 in
theorem symm (hp : 1 ≤ p) : ∀ (n k : Nat) (A L Q C : LI), L.length + Q.length ≤ n → n + 10000 < k → 0 < L.length → 0 < Q.length → (A ++ (L ++ (Q ++ C))).length ≤ 4096 → SCs w p (A ++ (L ++ (Q ++ C))) → Srt w p L → Srt w p Q → Cross w p L Q →
  ∃ M, M.Perm (L ++ Q) ∧ Srt w p M ∧ ∀ (K : LI → KS R), f149 k (A.length : Int) ((A.length + L.length : Nat) : Int) ((A.length + L.length + Q.length : Nat) : Int) (A ++ (L ++ (Q ++ C))) b p s d w x st P nx K = K (A ++ (M ++ C)) b p s d w x st P nx
 | 0, _, A, L, Q, C, h, _, hL, _, _, _, _, _, _ => by omega
 | n + 1, 0, A, L, Q, C, _, h, _, _, _, _, _, _, _ => absurd h (Nat.not_lt_zero _)
 | n + 1, k + 1, A, L, Q, C, hn, hk, hL, hQ, hl, hsc, sL, sQ, hcr => by
   obtain ⟨l, hle⟩ : ∃ l, l = A ++ (L ++ (Q ++ C)) := ⟨_, rfl⟩
   have hlen : l.length = A.length + L.length + Q.length + C.length := by rw [hle]; simp; omega
   have scA : SCs w p A := hsc.left
   have scL : SCs w p L := hsc.right.left
   have scQ : SCs w p Q := hsc.right.right.left
   have hget : ∀ i, i < l.length → SC w p (l.getD i 0) := fun i hi => by
    have := Q2u (l := l) hi
    rw [hle] at this ⊢
    exact hsc _ this
   have gL : ∀ c, A.length ≤ c → c < A.length + L.length → l.getD c 0 = L.getD (c - A.length) 0 := fun c h1 h2 => by rw [hle]; exact Q1a8 A L (Q ++ C) h1 h2
   have gQ : ∀ c, A.length + L.length ≤ c → c < A.length + L.length + Q.length → l.getD c 0 = Q.getD (c - (A.length + L.length)) 0 := fun c h1 h2 => by
    have := Q1a8 (A ++ L) Q C (i := c) (by simp; omega) (by simp; omega)
    rw [hle, show A ++ (L ++ (Q ++ C)) = (A ++ L) ++ (Q ++ C) by simp, this]
    simp
   have hles : ∀ i j, i < L.length → j < Q.length → decide (keyW w p (Q.getD j 0) < keyW w p (L.getD i 0)) = decide (key2 w p (Q.getD j 0) < key2 w p (L.getD i 0)) := fun i j hi hj => Qnf (scL _ (Q2u hi)) (scQ _ (Q2u hj)) (hcr _ (Q2u hi) _ (Q2u hj))
   have hne : ∀ i j, i < L.length → j < Q.length → key2 w p (L.getD i 0) ≠ key2 w p (Q.getD j 0) := fun i j hi hj => Q1ce (scL _ (Q2u hi)) (scQ _ (Q2u hj)) (hcr _ (Q2u hi) _ (Q2u hj))
   have hll : l.length ≤ 4096 := by rw [hle]; exact hl
   rw [← hle]
   have w1 : IntKind.i64.wrap (((A.length + L.length : Nat) : Int) - (A.length : Int)) = (L.length : Int) := by rw [wi1 (by omega) (by omega)]; omega
   have w2 : IntKind.i64.wrap (((A.length + L.length + Q.length : Nat) : Int) - ((A.length + L.length : Nat) : Int)) = (Q.length : Int) := by rw [wi1 (by omega) (by omega)]; omega
   by_cases hL1 : L.length = 1
   ·-- one element on the left
    obtain ⟨u, rfl⟩ : ∃ u, L = [u] := List.length_eq_one_iff.1 hL1
    obtain ⟨q, hq⟩ : ∃ q : Nat → Bool, q = fun c => decide (keyW w p (l.getD c 0) < keyW w p (l.getD A.length 0)) := ⟨_, rfl⟩
    have eu : l.getD A.length 0 = u := by rw [gL _ (Nat.le_refl _) (by simp), Nat.sub_self]; rfl
    have hqv : ∀ c, A.length + 1 ≤ c → c < A.length + 1 + Q.length → q c = decide (key2 w p (Q.getD (c - (A.length + 1)) 0) < key2 w p u) := fun c h1 h2 => by
     rw [hq]
     show decide _ = _
     rw [eu, gQ c h1 h2]
     exact hles 0 _ (by simp) (by omega)
    obtain ⟨c, hc⟩ : ∃ c, c = bsr q Q.length (A.length + 1) (A.length + 1 + Q.length) := ⟨_, rfl⟩
    obtain ⟨b1, b2, b3, b4⟩ := Q7q q Q.length (A.length + 1) (A.length + 1 + Q.length) (by omega) (by omega) fun c c' h1 h2 h3 h4 => by
     rw [hqv c' (by omega) h3, decide_eq_true_eq] at h4
     rw [hqv c h1 (by omega), decide_eq_true_eq]
     have := sQ.at_le (show c - (A.length + 1) ≤ c' - (A.length + 1) by omega) (by omega)
     omega
    rw [← hc] at b1 b2 b3 b4
    obtain ⟨e, he⟩ : ∃ e, e = c - (A.length + 1) := ⟨_, rfl⟩
    have p1 := parts sL sQ (s := 0) (e := e) (by omega) (by omega) (fun h => absurd h (Nat.lt_irrefl 0)) fun h1 h2 => by
     have := b3 (c - 1) (by omega) (by omega)
     rw [hqv _ (by omega) (by omega), decide_eq_true_eq] at this
     rw [show e - 1 = c - 1 - (A.length + 1) by omega]
     exact this
    have p2 := parts sL sQ (s := 1) (e := e) (by simp) (by omega) (fun h1 h2 => by
     have := b4 c (Nat.le_refl _) (by omega)
     rw [hqv _ (by omega) (by omega), decide_eq_false_iff_not] at this
     have h3 := hne 0 e (by simp) h2
     rw [he] at h3 ⊢
     show key2 w p u < _
     have h3 : key2 w p u ≠ key2 w p (Q.getD (c - (A.length + 1)) 0) := h3
     omega) fun h1 h2 => absurd h2 (by simp)
    refine ⟨Q.take e ++ u :: Q.drop e, ?_, ?_, fun K => ?_⟩
    ·refine List.perm_middle.trans ?_
     rw [List.take_append_drop]
     exact List.Perm.refl _
    ·refine Qp0 (sQ.take _) (List.pairwise_cons.2 ⟨fun z hz => ?_, sQ.drop _⟩) fun y hy z hz => ?_
     ·exact p2 u (by simp) z (by simp [hz])
     ·refine p1 y (by simp [hy]) z ?_
      rcases List.mem_cons.1 hz with rfl | hz
      ·simp
      ·simp [hz]
    ·rw [Q82, Qic, w1, hL1]
     simp only [show (((1 : Nat) : Int) == 1) = true from rfl, cond_true, Qex, Qey]
     refine (half0 k (by omega) hp _ l hll A.length (by omega) hget Q.length k (A.length + 1) (A.length + 1 + Q.length) (by omega) (by omega) (by omega) (by omega)).trans ?_
     rw [← hq, ← hc]
     have e1 : l = A ++ u :: (Q.take e ++ (Q.drop e ++ C)) := by
      rw [hle, ← List.append_assoc (Q.take e), List.take_append_drop]; rfl
     rw [e1]
     refine (Q152 k _ c (by omega) u (Q.take e) k A (Q.drop e ++ C) (by rw [List.length_take]; omega) (by rw [List.length_take]; omega)).trans ?_
     simp
   ·have c1 : ((L.length : Int) == 1) = false := by
     rw [beq_eq_false_iff_ne]; omega
    by_cases hQ1 : Q.length = 1
    ·-- one element on the right
     obtain ⟨v, rfl⟩ : ∃ v, Q = [v] := List.length_eq_one_iff.1 hQ1
     obtain ⟨q, hq⟩ : ∃ q : Nat → Bool, q = fun c => !decide (keyW w p (l.getD (A.length + L.length) 0) < keyW w p (l.getD c 0)) := ⟨_, rfl⟩
     have ev : l.getD (A.length + L.length) 0 = v := by rw [gQ _ (Nat.le_refl _) (by simp), Nat.sub_self]; rfl
     have hqv : ∀ c, A.length ≤ c → c < A.length + L.length → q c = !decide (key2 w p v < key2 w p (L.getD (c - A.length) 0)) := fun c h1 h2 => by
      rw [hq]
      show (!decide _) = _
      rw [ev, gL c h1 h2]
      exact congrArg _ (hles _ 0 (by omega) (by simp))
     obtain ⟨c, hc⟩ : ∃ c, c = bsr q L.length A.length (A.length + L.length) := ⟨_, rfl⟩
     obtain ⟨b1, b2, b3, b4⟩ := Q7q q L.length A.length (A.length + L.length) (by omega) (by omega) fun c c' h1 h2 h3 h4 => by
      rw [hqv c' (by omega) h3, Bool.not_eq_true', decide_eq_false_iff_not] at h4
      rw [hqv c h1 (by omega), Bool.not_eq_true', decide_eq_false_iff_not]
      have := sL.at_le (show c - A.length ≤ c' - A.length by omega) (by omega)
      omega
     rw [← hc] at b1 b2 b3 b4
     obtain ⟨e, he⟩ : ∃ e, e = c - A.length := ⟨_, rfl⟩
     have p1 := parts sL sQ (s := e) (e := 0) (by omega) (by omega) (fun h1 h2 => by
      have := b3 (c - 1) (by omega) (by omega)
      rw [hqv _ (by omega) (by omega), Bool.not_eq_true', decide_eq_false_iff_not] at this
      have h3 := hne (e - 1) 0 (by omega) (by simp)
      rw [show e - 1 = c - 1 - A.length by omega] at h3 ⊢
      show _ < key2 w p v
      have h3 : key2 w p (L.getD (c - 1 - A.length) 0) ≠ key2 w p v := h3
      omega) fun h => absurd h (Nat.lt_irrefl 0)
     have p2 := parts sL sQ (s := e) (e := 1) (by omega) (by simp) (fun h1 h2 => absurd h2 (by simp)) fun h1 h2 => by
      have := b4 c (Nat.le_refl _) (by omega)
      rw [hqv _ (by omega) (by omega), Bool.not_eq_false', decide_eq_true_eq] at this
      rw [he]
      exact this
     refine ⟨L.take e ++ v :: L.drop e, ?_, ?_, fun K => ?_⟩
     ·refine List.perm_middle.trans ?_
      rw [List.take_append_drop]
      exact (List.perm_append_singleton v L).symm
     ·refine Qp0 (sL.take _) (List.pairwise_cons.2 ⟨fun z hz => ?_, sL.drop _⟩) fun y hy z hz => ?_
      ·exact p2 v (by simp) z (by simp [hz])
      ·refine p1 y (by simp [hy]) z ?_
       rcases List.mem_cons.1 hz with rfl | hz
       ·simp
       ·simp [hz]
     ·rw [Q82, Qic, w1, w2, hQ1, c1]
      simp only [show (((1 : Nat) : Int) == 1) = true from rfl, cond_true, cond_false, Qez, Qf0]
      refine (half4 k (by omega) hp _ l hll (A.length + L.length) (by omega) hget L.length k A.length (A.length + L.length) (by omega) (by omega) (by omega) (by omega)).trans ?_
      rw [← hq, ← hc]
      have e1 : l = (A ++ L.take e) ++ (L.drop e ++ v :: C) := by
       rw [hle, List.append_assoc, ← List.append_assoc (L.take e), List.take_append_drop]; rfl
      have e2 : (c : Int) = ((A ++ L.take e).length : Int) := by rw [List.length_append, List.length_take]; omega
      have e3 : ((A.length + L.length : Nat) : Int) = (((A ++ L.take e).length + (L.drop e).length : Nat) : Int) := by rw [List.length_append, List.length_take, List.length_drop]; omega
      rw [e1, e2, e3]
      refine (Qkb k _ v (A ++ L.take e) (L.drop e).length k (L.drop e) C rfl (by rw [List.length_drop]; omega) (by rw [List.length_append, List.length_take, List.length_drop]; omega)).trans ?_
      simp
    ·-- the general way
     have c2 : ((Q.length : Int) == 1) = false := by
      rw [beq_eq_false_iff_ne]; omega
     obtain ⟨la, hla⟩ : ∃ la, la = A.length := ⟨_, rfl⟩
     obtain ⟨m, hm⟩ : ∃ m, m = A.length + L.length := ⟨_, rfl⟩
     obtain ⟨bb, hbb⟩ : ∃ bb, bb = A.length + L.length + Q.length := ⟨_, rfl⟩
     obtain ⟨mid, hmid⟩ : ∃ mid, mid = (la + bb) / 2 := ⟨_, rfl⟩
     obtain ⟨s0, r0, k1, k2, k3, k4, k5, k6, k7, hbr⟩ : ∃ s0 r0 : Nat, la ≤ s0 ∧ s0 ≤ r0 ∧ r0 ≤ m ∧ (∀ c, s0 ≤ c → c < r0 → c ≤ mid + m - 1 ∧ m ≤ mid + m - 1 - c ∧ mid + m - 1 - c < bb) ∧ (s0 = la ∨ mid + m - s0 = bb) ∧ (r0 = m ∨ mid + m - r0 = m) ∧ (m ≤ mid + m - r0 ∧ mid + m - s0 ≤ bb) ∧
      ∀ xN : Int → Int → Oq R, Q7z k xN (la : Int) (m : Int) (bb : Int) (mid : Int) ((mid + m : Nat) : Int) (decide ((m : Int) > (mid : Int))) = xN (s0 : Int) (r0 : Int) := by
      by_cases hmm : m > mid
      ·refine ⟨mid + m - bb, mid, by omega, by omega, by omega, fun c h1 h2 => by omega, .inr (by omega), .inr (by omega), by omega, fun xN => ?_⟩
       have d0 : decide ((m : Int) > (mid : Int)) = true := dT (by omega)
       rw [Q5e]
       simp only [Q80, d0, cond_true, wi1 (show bb ≤ mid + m by omega) (by omega)]
      ·refine ⟨la, m, by omega, by omega, by omega, fun c h1 h2 => by omega, .inl rfl, .inl rfl, by omega, fun xN => ?_⟩
       have d0 : decide ((m : Int) > (mid : Int)) = false := dF (by omega)
       rw [Q5e]
       simp only [Q80, d0, cond_false]
     obtain ⟨q, hq⟩ : ∃ q : Nat → Bool, q = fun c => !decide (keyW w p (l.getD (mid + m - 1 - c) 0) < keyW w p (l.getD c 0)) := ⟨_, rfl⟩
     have hqv : ∀ c, s0 ≤ c → c < r0 → q c = !decide (key2 w p (Q.getD (mid + m - 1 - c - m) 0) < key2 w p (L.getD (c - la) 0)) := fun c h1 h2 => by
      have h3 := k4 c h1 h2
      rw [hq]
      show (!decide _) = _
      rw [gQ _ (by omega) (by omega), gL c (by omega) (by omega), hm, hla]
      exact congrArg _ (hles _ _ (by omega) (by omega))
     obtain ⟨c, hc⟩ : ∃ c, c = bsr q (r0 - s0) s0 r0 := ⟨_, rfl⟩
     obtain ⟨b1, b2, b3, b4⟩ := Q7q q (r0 - s0) s0 r0 (by omega) k2 fun c c' h1 h2 h3 h4 => by
      have h5 := k4 c h1 (by omega)
      have h6 := k4 c' (by omega) h3
      rw [hqv c' (by omega) h3, Bool.not_eq_true', decide_eq_false_iff_not] at h4
      rw [hqv c h1 (by omega), Bool.not_eq_true', decide_eq_false_iff_not]
      have t1 := sL.at_le (show c - la ≤ c' - la by omega) (by omega)
      have t2 := sQ.at_le (show mid + m - 1 - c' - m ≤ mid + m - 1 - c - m by omega) (by omega)
      omega
     rw [← hc] at b1 b2 b3 b4
     obtain ⟨e, he⟩ : ∃ e, e = mid + m - c := ⟨_, rfl⟩
     have pp := parts sL sQ (s := c - la) (e := e - m) (by omega) (by omega) (fun h1 h2 => by
      have h5 : s0 < c := by omega
      have h6 := k4 (c - 1) (by omega) (by omega)
      have := b3 (c - 1) (by omega) (by omega)
      rw [hqv _ (by omega) (by omega), Bool.not_eq_true', decide_eq_false_iff_not] at this
      have h3 := hne (c - la - 1) (e - m) (by omega) h2
      rw [show mid + m - 1 - (c - 1) - m = e - m by omega, show c - 1 - la = c - la - 1 by omega] at this
      omega) fun h1 h2 => by
      have h5 : c < r0 := by omega
      have := b4 c (Nat.le_refl _) h5
      rw [hqv _ b1 h5, Bool.not_eq_false', decide_eq_true_eq] at this
      rw [show e - m - 1 = mid + m - 1 - c - m by omega]
      exact this
     obtain ⟨L1, hL1e⟩ : ∃ L1, L1 = L.take (c - la) := ⟨_, rfl⟩
     obtain ⟨L2, hL2e⟩ : ∃ L2, L2 = L.drop (c - la) := ⟨_, rfl⟩
     obtain ⟨Q1, hQ1e⟩ : ∃ Q1, Q1 = Q.take (e - m) := ⟨_, rfl⟩
     obtain ⟨Q2, hQ2e⟩ : ∃ Q2, Q2 = Q.drop (e - m) := ⟨_, rfl⟩
     have eL : L = L1 ++ L2 := by rw [hL1e, hL2e, List.take_append_drop]
     have eQ : Q = Q1 ++ Q2 := by rw [hQ1e, hQ2e, List.take_append_drop]
     have n1 : L1.length = c - la := by rw [hL1e, List.length_take]; omega
     have n2 : L2.length = m - c := by rw [hL2e, List.length_drop]; omega
     have n3 : Q1.length = e - m := by rw [hQ1e, List.length_take]; omega
     have n4 : Q2.length = bb - e := by rw [hQ2e, List.length_drop]; omega
     rw [← hL1e, ← hL2e, ← hQ1e, ← hQ2e] at pp
     have sL1 : Srt w p L1 := hL1e ▸ sL.take _
     have sL2 : Srt w p L2 := hL2e ▸ sL.drop _
     have sQ1 : Srt w p Q1 := hQ1e ▸ sQ.take _
     have sQ2 : Srt w p Q2 := hQ2e ▸ sQ.drop _
     have mL1 : ∀ z ∈ L1, z ∈ L := fun z hz => by rw [eL]; exact List.mem_append_left _ hz
     have mL2 : ∀ z ∈ L2, z ∈ L := fun z hz => by rw [eL]; exact List.mem_append_right _ hz
     have mQ1 : ∀ z ∈ Q1, z ∈ Q := fun z hz => by rw [eQ]; exact List.mem_append_left _ hz
     have mQ2 : ∀ z ∈ Q2, z ∈ Q := fun z hz => by rw [eQ]; exact List.mem_append_right _ hz
     have scC : SCs w p C := hsc.right.right.right
     -- what the first call makes
     obtain ⟨M1, q1, q2, q3⟩ : ∃ M1, M1.Perm (L1 ++ Q1) ∧ Srt w p M1 ∧ ∀ K : LI → KS R, mrg1 (f149 k) (la : Int) (c : Int) (mid : Int) (e : Int) (bb : Int) (A ++ (L1 ++ (Q1 ++ (L2 ++ (Q2 ++ C))))) b p s d w x st P nx K = mrg2 (f149 k) (mid : Int) (e : Int) (bb : Int) (A ++ (M1 ++ (L2 ++ (Q2 ++ C)))) b p s d w x st P nx K := by
      by_cases h1 : la < c ∧ c < mid
      ·have lenx : (A ++ (L1 ++ (Q1 ++ (L2 ++ (Q2 ++ C))))).length ≤ 4096 := by simp; omega
       obtain ⟨M1, t1, t2, t3⟩ := symm hp n k A L1 Q1 (L2 ++ (Q2 ++ C)) (by omega) (by omega) (by omega) (by omega) lenx (scA.app (SCs.app (fun z hz => scL z (mL1 z hz)) (SCs.app (fun z hz => scQ z (mQ1 z hz)) (SCs.app (fun z hz => scL z (mL2 z hz)) (SCs.app (fun z hz => scQ z (mQ2 z hz)) scC))))) sL1 sQ1 (fun y hy z hz => hcr y (mL1 y hy) z (mQ1 z hz))
       refine ⟨M1, t1, t2, fun K => ?_⟩
       have d0 : decide ((la : Int) < (c : Int)) = true := dT (by omega)
       have d1 : decide ((c : Int) < (mid : Int)) = true := dT (by omega)
       have tl := t1.length_eq
       rw [List.length_append] at tl
       have i1 : ((A.length + L1.length : Nat) : Int) = (c : Int) := by omega
       have i2 : ((A.length + L1.length + Q1.length : Nat) : Int) = (mid : Int) := by omega
       have := fun K => t3 K
       rw [i1, i2, ← hla] at this
       simp only [mrg1, d0, d1, beq_self_eq_true, cond_true]
       rw [this]
       have d2 : decide ((A ++ (M1 ++ (L2 ++ (Q2 ++ C)))).length = (A ++ (L1 ++ (Q1 ++ (L2 ++ (Q2 ++ C))))).length) = true := by simp; omega
       simp only [d2, Bool.and_self, cond_true]
      ·have hz : L1 = [] ∨ Q1 = [] := by
        by_cases h2 : la < c
        ·right; exact List.length_eq_zero_iff.1 (by omega)
        ·left; exact List.length_eq_zero_iff.1 (by omega)
       refine ⟨L1 ++ Q1, List.Perm.refl _, ?_, fun K => ?_⟩
       ·rcases hz with h | h
        ·rw [h, List.nil_append]; exact sQ1
        ·rw [h, List.append_nil]; exact sL1
       ·have e1 : A ++ (L1 ++ Q1 ++ (L2 ++ (Q2 ++ C))) = A ++ (L1 ++ (Q1 ++ (L2 ++ (Q2 ++ C)))) := by simp
        rw [e1]
        by_cases h2 : la < c
        ·have d0 : decide ((la : Int) < (c : Int)) = true := dT (by omega)
         have d1 : decide ((c : Int) < (mid : Int)) = false := dF (by omega)
         simp only [mrg1, d0, d1, beq_self_eq_true, cond_true, cond_false]
        ·have d0 : decide ((la : Int) < (c : Int)) = false := dF (by omega)
         simp only [mrg1, d0, show (false == true) = false from rfl, cond_false]
     obtain ⟨M2, u1, u2, u3⟩ : ∃ M2, M2.Perm (L2 ++ Q2) ∧ Srt w p M2 ∧ ∀ K : LI → KS R, mrg2 (f149 k) (mid : Int) (e : Int) (bb : Int) (A ++ (M1 ++ (L2 ++ (Q2 ++ C)))) b p s d w x st P nx K = K (A ++ (M1 ++ (M2 ++ C))) b p s d w x st P nx := by
      have q1l := q1.length_eq
      rw [List.length_append] at q1l
      by_cases h1 : mid < e ∧ e < bb
      ·have lenx : ((A ++ M1) ++ (L2 ++ (Q2 ++ C))).length ≤ 4096 := by simp; omega
       have scM : SCs w p M1 := SCs.perm (SCs.app (fun z hz => scL z (mL1 z hz)) (fun z hz => scQ z (mQ1 z hz))) q1
       obtain ⟨M2, t1, t2, t3⟩ := symm hp n k (A ++ M1) L2 Q2 C (by omega) (by omega) (by omega) (by omega) lenx ((scA.app scM).app (SCs.app (fun z hz => scL z (mL2 z hz)) (SCs.app (fun z hz => scQ z (mQ2 z hz)) scC))) sL2 sQ2 (fun y hy z hz => hcr y (mL2 y hy) z (mQ2 z hz))
       refine ⟨M2, t1, t2, fun K => ?_⟩
       have d0 : decide ((mid : Int) < (e : Int)) = true := dT (by omega)
       have d1 : decide ((e : Int) < (bb : Int)) = true := dT (by omega)
       have tl := t1.length_eq
       rw [List.length_append] at tl
       have nn : (A ++ M1).length = A.length + M1.length := List.length_append
       have i0 : ((A ++ M1).length : Int) = (mid : Int) := by omega
       have i1 : (((A ++ M1).length + L2.length : Nat) : Int) = (e : Int) := by omega
       have i2 : (((A ++ M1).length + L2.length + Q2.length : Nat) : Int) = (bb : Int) := by omega
       have := fun K => t3 K
       rw [i1, i2, i0] at this
       simp only [mrg2, d0, d1, beq_self_eq_true, cond_true]
       rw [← List.append_assoc A M1, this]
       have d2 : decide ((A ++ M1 ++ (M2 ++ C)).length = (A ++ M1 ++ (L2 ++ (Q2 ++ C))).length) = true := by simp; omega
       simp only [d2, Bool.and_self, cond_true]
       rw [List.append_assoc]
      ·have hz : L2 = [] ∨ Q2 = [] := by
        by_cases h2 : mid < e
        ·right; exact List.length_eq_zero_iff.1 (by omega)
        ·left; exact List.length_eq_zero_iff.1 (by omega)
       refine ⟨L2 ++ Q2, List.Perm.refl _, ?_, fun K => ?_⟩
       ·rcases hz with h | h
        ·rw [h, List.nil_append]; exact sQ2
        ·rw [h, List.append_nil]; exact sL2
       ·have e1 : A ++ (M1 ++ (L2 ++ Q2 ++ C)) = A ++ (M1 ++ (L2 ++ (Q2 ++ C))) := by simp
        rw [e1]
        by_cases h2 : mid < e
        ·have d0 : decide ((mid : Int) < (e : Int)) = true := dT (by omega)
         have d1 : decide ((e : Int) < (bb : Int)) = false := dF (by omega)
         simp only [mrg2, d0, d1, beq_self_eq_true, cond_true, cond_false]
        ·have d0 : decide ((mid : Int) < (e : Int)) = false := dF (by omega)
         simp only [mrg2, d0, show (false == true) = false from rfl, cond_false]
     refine ⟨M1 ++ M2, ?_, ?_, fun K => ?_⟩
     ·refine (List.Perm.append q1 u1).trans ?_
      rw [eL, eQ]
      have e1 : L1 ++ Q1 ++ (L2 ++ Q2) = L1 ++ ((Q1 ++ L2) ++ Q2) := by simp
      have e2 : L1 ++ L2 ++ (Q1 ++ Q2) = L1 ++ ((L2 ++ Q1) ++ Q2) := by simp
      rw [e1, e2]
      exact List.Perm.append_left L1 (List.Perm.append_right Q2 List.perm_append_comm)
     ·exact Qp0 q2 u2 fun y hy z hz => pp y (q1.mem_iff.1 hy) z (u1.mem_iff.1 hz)
     ·have el : l = A ++ (L1 ++ (L2 ++ (Q1 ++ (Q2 ++ C)))) := by rw [hle, eL, eQ]; simp
      have hm1 : hlf (A.length : Int) ((A.length + L.length + Q.length : Nat) : Int) = (mid : Int) := by
       rw [hmid, hla, hbb]
       exact Qsm (by omega) (by omega)
      rw [Q82, Qic, w1, w2, c1, c2, hm1, ← hbb, ← hm, ← hla]
      have w3 : IntKind.i64.wrap ((mid : Int) + (m : Int)) = ((mid + m : Nat) : Int) := wi2 (by omega) (by omega)
      have w4 : IntKind.i64.wrap (((mid + m : Nat) : Int) - 1) = ((mid + m - 1 : Nat) : Int) := wi1 (a := 1) (by omega) (by omega)
      have w5 : IntKind.i64.wrap (((mid + m : Nat) : Int) - (c : Int)) = (e : Int) := by rw [he]; exact wi1 (by omega) (by omega)
      simp only [cond_false, w3, w4]
      rw [hbr, Qf1]
      refine (half8 k (by omega) hp _ l hll _ _ _ _ _ (mid + m - 1) (by omega) hget (r0 - s0) k s0 r0 (Nat.le_refl _) (by omega) k2 (by omega) (fun c h1 h2 => by
       have := k4 c h1 h2
       omega)).trans ?_
      rw [← hq, ← hc]
      simp only [w5]
      have hrot : ∀ (t : Bool) (xN : LI → KS R), (t = true ↔ c < m ∧ m < e) → Q40 k xN (m : Int) (c : Int) (e : Int) t l b p s d w x st P nx = xN (A ++ (L1 ++ (Q1 ++ (L2 ++ (Q2 ++ C))))) b p s d w x st P nx := fun t xN ht => by
       rw [Qa1]
       cases t with
       | true =>
         obtain ⟨t1, t2⟩ := ht.1 rfl
         simp only [Q81, cond_true]
         have := Q1c4 (R := R) (k := k) (by omega) (A ++ L1) L2 Q1 (Q2 ++ C) (by omega) (by omega) (by simp; omega) (a := (c : Int)) (m := (m : Int)) (e := (e : Int)) (by simp; omega) (by simp; omega) (by simp; omega) (b := b) (p := p) (s := s) (nx := nx) (d := d) (w := w) (x := x) (st := st) (P := P)
         have e3 : l = (A ++ L1) ++ (L2 ++ (Q1 ++ (Q2 ++ C))) := by rw [el]; simp
         rw [e3, this]
         have d2 : decide ((A ++ L1 ++ (Q1 ++ (L2 ++ (Q2 ++ C)))).length = (A ++ L1 ++ (L2 ++ (Q1 ++ (Q2 ++ C)))).length) = true := by simp; omega
         simp only [d2, Bool.and_self, cond_true]
         rw [List.append_assoc]
       | false =>
         simp only [Q81, cond_false]
         have hz : L2 = [] ∨ Q1 = [] := by
          by_cases h2 : c < m
          ·right
           have : ¬ m < e := fun h => Bool.false_ne_true (ht.2 ⟨h2, h⟩)
           exact List.length_eq_zero_iff.1 (by omega)
          ·left; exact List.length_eq_zero_iff.1 (by omega)
         have e4 : l = A ++ (L1 ++ (Q1 ++ (L2 ++ (Q2 ++ C)))) := by
          rw [el]
          rcases hz with h | h <;> simp [h]
         rw [e4]
      by_cases hcm : c < m
      ·have d0 : decide ((c : Int) < (m : Int)) = true := dT (by omega)
       simp only [d0, beq_self_eq_true, cond_true]
       rw [hrot _ _ (by rw [decide_eq_true_eq]; omega), q3, u3]
       simp
      ·have d0 : decide ((c : Int) < (m : Int)) = false := dF (by omega)
       simp only [d0, show (false == true) = false from rfl, cond_false]
       rw [hrot _ _ (by simp; omega), q3, u3]
       simp
def Blk (bs : Nat) : List (LI) → Prop
 | [] => True
 | B :: Bs => 0 < B.length ∧ B.length ≤ bs ∧ (Bs ≠ [] → B.length = bs) ∧ Blk bs Bs
def GoodB (w : LI) (p : Int) : List (LI) → Prop
 | [] => True
 | B :: Bs => Srt w p B ∧ (∀ u ∈ B, ∀ v ∈ Bs.flatten, u < v) ∧ GoodB w p Bs
theorem Qm7 (k : Nat) (hk : 20000 < k) (hp : 1 ≤ p) (xN : LI → KS R) (n bs : Nat) (hn : n ≤ 4096) (hbs : 1 ≤ bs) (hbs2 : bs ≤ 4096) : ∀ (q f : Nat) (D : LI) (Bs : List (LI)), Bs.flatten.length ≤ q → q < f → Blk bs Bs → GoodB w p Bs → D.length + Bs.flatten.length = n → SCs w p (D ++ Bs.flatten) →
  ∃ NB, Blk (2 * bs) NB ∧ GoodB w p NB ∧ NB.flatten.Perm Bs.flatten ∧
    Q58 k (fun a l b p s d w x st P nx => Qaz k (fun l' b p s d w x st P nx => xN l' b p s d w x st P nx) (n : Int) a (IntKind.i64.wrap (a + (bs : Int))) (decide (IntKind.i64.wrap (a + (bs : Int)) < (n : Int))) l b p s d w x st P nx) (n : Int) (bs : Int) f (D.length : Int) ((D.length + 2 * bs : Nat) : Int) (D ++ Bs.flatten) b p s d w x st P nx = xN (D ++ NB.flatten) b p s d w x st P nx
 | q, 0, _, _, _, h, _, _, _, _ => absurd h (Nat.not_lt_zero _)
 | q, f + 1, D, Bs, hq, hf, hB, hG, hl, hs => by
   by_cases hlt : D.length + 2 * bs ≤ n
   ·-- two whole blocks
    obtain ⟨B1, B2, Bs, rfl, hb1, hb2⟩ : ∃ B1 B2 Bs', Bs = B1 :: B2 :: Bs' ∧ B1.length = bs ∧ B2.length = bs := by
     match Bs, hB with
     | [], _ => simp at hl; omega
     | [B1], hB => simp at hl; have := hB.2.1; omega
     | B1 :: B2 :: Bs', hB =>
       have h1 := hB.2.2.1 (by simp)
       have h2 := hB.2.2.2
       refine ⟨B1, B2, Bs', rfl, h1, ?_⟩
       cases Bs' with
       | nil => simp at hl; have := h2.2.1; omega
       | cons B3 Bs' => exact h2.2.2.1 (by simp)
    simp only [List.flatten_cons, List.length_append] at hq hl
    have el : D ++ (B1 :: B2 :: Bs).flatten = D ++ (B1 ++ (B2 ++ Bs.flatten)) := by simp
    rw [el] at hs ⊢
    obtain ⟨g1, g2, g3, g4, g5⟩ := hG
    obtain ⟨M, m1, m2, m3⟩ := symm (R := R) hp (B1.length + B2.length) k D B1 B2 Bs.flatten (Nat.le_refl _) (by omega) (by omega) (by omega) (by simp only [List.length_append]; omega) hs g1 g3 (fun u hu v hv _ => g2 u hu v (by simp [hv])) (b := b) (s := s) (nx := nx) (d := d) (x := x) (st := st) (P := P)
    have ml := m1.length_eq
    rw [List.length_append] at ml
    have hsM : SCs w p M := SCs.perm (SCs.app hs.right.left hs.right.right.left) m1
    obtain ⟨NB, n1, n2, n3, n4⟩ := Qm7 k hk hp xN n bs hn hbs hbs2 (q - 1) f (D ++ M) Bs (by omega) (by omega) hB.2.2.2.2.2.2 g5 (by rw [List.length_append]; omega) (SCs.app (SCs.app hs.left hsM) hs.right.right.right)
    refine ⟨M :: NB, ⟨by omega, by omega, fun _ => by omega, n1⟩, ⟨m2, fun u hu v hv => ?_, n2⟩, ?_, ?_⟩
    ·have hv' := n3.mem_iff.1 hv
     rcases List.mem_append.1 (m1.mem_iff.1 hu) with hu | hu
     ·exact g2 u hu v (by simp [hv'])
     ·exact g4 u hu v hv'
    ·simp only [List.flatten_cons]
     refine (List.Perm.append m1 n3).trans ?_
     rw [List.append_assoc]
    ·have d0 : decide (((D.length + 2 * bs : Nat) : Int) ≤ (n : Int)) = true := dT (by omega)
     have w1 : IntKind.i64.wrap ((D.length : Int) + (bs : Int)) = ((D.length + B1.length : Nat) : Int) := by rw [wi2 (by omega) (by omega), hb1]
     have w2 : IntKind.i64.wrap (2 * (bs : Int)) = ((2 * bs : Nat) : Int) := wj (by omega)
     have w3 : IntKind.i64.wrap (((D.length + 2 * bs : Nat) : Int) + ((2 * bs : Nat) : Int)) = (((D ++ M).length + 2 * bs : Nat) : Int) := by rw [wi2 (by omega) (by omega), List.length_append]; omega
     have w4 : ((D.length + 2 * bs : Nat) : Int) = ((D.length + B1.length + B2.length : Nat) : Int) := by omega
     have w5 : ((D.length + 2 * bs : Nat) : Int) = ((D ++ M).length : Int) := by rw [List.length_append]; omega
     simp only [Q58, Qo6, d0, cond_true, w1, w2]
     rw [w3, w4, m3]
     have d2 : decide ((D ++ (M ++ Bs.flatten)).length = (D ++ (B1 ++ (B2 ++ Bs.flatten))).length) = true := by simp; omega
     simp only [d2, Bool.and_self, cond_true]
     rw [← w4, w5, ← List.append_assoc D M]
     refine n4.trans ?_
     rw [List.flatten_cons, List.append_assoc]
   ·have d0 : decide (((D.length + 2 * bs : Nat) : Int) ≤ (n : Int)) = false := dF (by omega)
    have w1 : IntKind.i64.wrap ((D.length : Int) + (bs : Int)) = ((D.length + bs : Nat) : Int) := wi2 (by omega) (by omega)
    simp only [Q58, Qo6, d0, cond_false, Q9x, w1]
    match Bs, hB, hG, hl, hs with
    | [], _, _, hl, hs =>
      refine ⟨[], trivial, trivial, List.Perm.refl _, ?_⟩
      have d1 : decide (((D.length + bs : Nat) : Int) < (n : Int)) = false := by simp at hl; simp only [decide_eq_false_iff_not]; omega
      simp only [Q59, d1, cond_false]
    | [B1], hB, hG, hl, hs =>
      refine ⟨[B1], ⟨hB.1, by have := hB.2.1; omega, fun h => absurd rfl h, trivial⟩, hG, List.Perm.refl _, ?_⟩
      have d1 : decide (((D.length + bs : Nat) : Int) < (n : Int)) = false := by simp at hl; have := hB.2.1; simp only [decide_eq_false_iff_not]; omega
      simp only [Q59, d1, cond_false]
    | [B1, B2], hB, hG, hl, hs =>
      have hb1 := hB.2.2.1 (by simp)
      have hb2 := hB.2.2.2
      obtain ⟨g1, g2, g3, g4, g5⟩ := hG
      have el : D ++ [B1, B2].flatten = D ++ (B1 ++ (B2 ++ [])) := by simp
      rw [el] at hs ⊢
      have hl' : D.length + (B1.length + B2.length) = n := by simpa using hl
      obtain ⟨M, m1, m2, m3⟩ := symm (R := R) hp (B1.length + B2.length) k D B1 B2 [] (Nat.le_refl _) (by omega) (by omega) hb2.1 (by simp; omega) hs g1 g3 (fun u hu v hv _ => g2 u hu v (by simp [hv])) (b := b) (s := s) (nx := nx) (d := d) (x := x) (st := st) (P := P)
      have ml := m1.length_eq
      rw [List.length_append] at ml
      refine ⟨[M], ⟨by omega, by have := hb2.2.1; omega, fun h => absurd rfl h, trivial⟩, ⟨m2, fun u hu v hv => by simp at hv, trivial⟩, by simpa using m1, ?_⟩
      have hb2p := hb2.1
      have d1 : decide (((D.length + bs : Nat) : Int) < (n : Int)) = true := dT (by omega)
      have i1 : ((D.length + bs : Nat) : Int) = ((D.length + B1.length : Nat) : Int) := by omega
      have i2 : (n : Int) = ((D.length + B1.length + B2.length : Nat) : Int) := by omega
      simp only [Q59, d1, cond_true]
      rw [i1, i2, m3]
      have d2 : decide ((D ++ (M ++ [])).length = (D ++ (B1 ++ (B2 ++ []))).length) = true := by simp; omega
      simp only [d2, Bool.and_self, cond_true]
      simp
    | B1 :: B2 :: B3 :: Bs, hB, hG, hl, hs =>
      have hb1 := hB.2.2.1 (by simp)
      have hb2 := hB.2.2.2.2.2.1 (by simp)
      simp only [List.flatten_cons, List.length_append] at hl
      omega
theorem Qfo (k : Nat) (hk : 20000 < k) (hp : 1 ≤ p) (x2 : LI → KS R) (n : Nat) (hn : n ≤ 4096) : ∀ (q f bs : Nat) (Bs : List (LI)), n - bs ≤ q → q < f → 1 ≤ bs → bs ≤ 8192 → Blk bs Bs → GoodB w p Bs → Bs.flatten.length = n → SCs w p Bs.flatten →
  ∃ M, M.Perm Bs.flatten ∧ Srt w p M ∧ Q3c k x2 (n : Int) f (bs : Int) Bs.flatten b p s d w x st P nx = x2 M b p s d w x st P nx
 | q, 0, _, _, _, h, _, _, _, _, _, _ => absurd h (Nat.not_lt_zero _)
 | q, f + 1, bs, Bs, hq, hf, h1, h2, hB, hG, hl, hs => by
   by_cases hlt : bs < n
   ·have d0 : decide ((bs : Int) < (n : Int)) = true := dT (by omega)
    have w1 : IntKind.i64.wrap (2 * (bs : Int)) = ((2 * bs : Nat) : Int) := wj (by omega)
    have w2 : IntKind.i64.wrap ((bs : Int) * 2) = ((2 * bs : Nat) : Int) := wj (by omega)
    simp only [Q3c, Qo5, d0, cond_true, Qet, w1, w2]
    obtain ⟨NB, n1, n2, n3, n4⟩ := Qm7 k hk hp (fun y15_N_2 y15_N_3 y15_N_4 y15_N_5 y15_N_6 y15_N_7 y15_N_8 y15_N_9 y15_N_10 y15_N_11 => Q3c k x2 (n : Int) f ((2 * bs : Nat) : Int) y15_N_2 y15_N_3 y15_N_4 y15_N_5 y15_N_6 y15_N_7 y15_N_8 y15_N_9 y15_N_10 y15_N_11) n bs hn h1 (by omega) n k [] Bs (by omega) (by omega) hB hG (by simpa using hl) (by simpa using hs) (b := b) (s := s) (nx := nx) (d := d) (x := x) (st := st) (P := P)
    simp only [List.nil_append, List.length_nil, Nat.zero_add] at n4
    obtain ⟨M, m1, m2, m3⟩ := Qfo k hk hp x2 n hn (q - 1) f (2 * bs) NB (by omega) (by omega) (by omega) (by omega) n1 n2 (n3.length_eq.trans hl) (hs.perm n3)
    exact ⟨M, m1.trans n3, m2, n4.trans m3⟩
   ·have d0 : decide ((bs : Int) < (n : Int)) = false := dF (by omega)
    refine ⟨Bs.flatten, List.Perm.refl _, ?_, ?_⟩
    ·match Bs, hB, hG, hl with
     | [], _, _, _ => exact List.Pairwise.nil
     | [B], _, hG, _ => simpa using hG.1
     | B1 :: B2 :: Bs, hB, hG, hl =>
       have hb1 := hB.2.2.1 (by simp)
       have hb2 := hB.2.2.2.1
       simp only [List.flatten_cons, List.length_append] at hl
       omega
    ·simp only [Q3c, Qo5, d0, cond_false]
theorem Qe3 (k : Nat) (hk : 20000 < k) (hp : 1 ≤ p) (xN : LI → KS R) (n : Nat) (hn : n ≤ 4096) : ∀ (q f : Nat) (D Y : LI), Y.length ≤ q → q < f → D.length + Y.length = n → SCs w p Y → Asc Y →
  ∃ NB, Blk 20 NB ∧ GoodB w p NB ∧ NB.flatten.Perm Y ∧
    Q3w k (fun a l b p s d w x st P nx => f148 k a (n : Int) l b p s d w x st P nx (fun r0 r1 r2 r3 r4 r5 r6 r7 r8 r9 => (bif (decide (r0.length = l.length) && true) then (xN r0 r1 r2 r3 r4 r5 r6 r7 r8 r9) else none))) (n : Int) 20 f (D.length : Int) ((D.length + 20 : Nat) : Int) (D ++ Y) b p s d w x st P nx = xN (D ++ NB.flatten) b p s d w x st P nx
 | q, 0, _, _, _, h, _, _, _ => absurd h (Nat.not_lt_zero _)
 | q, f + 1, D, Y, hq, hf, hl, hs, ha => by
   by_cases hlt : D.length + 20 ≤ n
   ·obtain ⟨Y1, Y2, rfl, hy1⟩ : ∃ Y1 Y2, Y = Y1 ++ Y2 ∧ Y1.length = 20 := ⟨Y.take 20, Y.drop 20, (List.take_append_drop 20 Y).symm, by rw [List.length_take]; omega⟩
    rw [List.length_append] at hq hl
    have ha' := List.pairwise_append.1 ha
    obtain ⟨M, m1, m2, m3⟩ := Q111 (R := R) (k := k) (by omega) hp D Y1 Y2 (by omega) hs.left ha'.1 (fun r0 r1 r2 r3 r4 r5 r6 r7 r8 r9 => bif (decide (r0.length = (D ++ (Y1 ++ Y2)).length) && true) then Q3w k (fun a l b p s d w x st P nx => f148 k a (n : Int) l b p s d w x st P nx (fun r0 r1 r2 r3 r4 r5 r6 r7 r8 r9 => (bif (decide (r0.length = l.length) && true) then (xN r0 r1 r2 r3 r4 r5 r6 r7 r8 r9) else none))) (n : Int) 20 f ((D.length + 20 : Nat) : Int) ((D.length + 20 + 20 : Nat) : Int) r0 r1 r2 r3 r4 r5 r6 r7 r8 r9 else none) (b := b) (s := s) (nx := nx) (d := d) (x := x) (st := st) (P := P)
    have ml := m1.length_eq
    obtain ⟨NB, n1, n2, n3, n4⟩ := Qe3 k hk hp xN n hn (q - 1) f (D ++ M) Y2 (by omega) (by omega) (by rw [List.length_append]; omega) hs.right ha'.2.1
    refine ⟨M :: NB, ⟨by omega, by omega, fun _ => by omega, n1⟩, ⟨m2, fun u hu v hv => ha'.2.2 u (m1.mem_iff.1 hu) v (n3.mem_iff.1 hv), n2⟩, ?_, ?_⟩
    ·rw [List.flatten_cons]; exact List.Perm.append m1 n3
    ·have d0 : decide (((D.length + 20 : Nat) : Int) ≤ (n : Int)) = true := dT (by omega)
     have w1 : IntKind.i64.wrap (((D.length + 20 : Nat) : Int) + 20) = ((D.length + 20 + 20 : Nat) : Int) := wj (by omega)
     simp only [Q3w, Qo4, d0, cond_true, w1]
     have i1 : ((D.length + 20 : Nat) : Int) = ((D.length + Y1.length : Nat) : Int) := by omega
     rw [i1] at m3 ⊢
     refine m3.trans ?_
     have d2 : decide ((D ++ (M ++ Y2)).length = (D ++ (Y1 ++ Y2)).length) = true := by simp; omega
     simp only [d2, Bool.and_self, cond_true]
     have i2 : ((D.length + Y1.length : Nat) : Int) = ((D ++ M).length : Int) := by rw [List.length_append]; omega
     have i3 : ((D.length + 20 + 20 : Nat) : Int) = (((D ++ M).length + 20 : Nat) : Int) := by rw [List.length_append]; omega
     rw [i2, i3, ← List.append_assoc]
     refine n4.trans ?_
     rw [List.flatten_cons, List.append_assoc]
   ·have d0 : decide (((D.length + 20 : Nat) : Int) ≤ (n : Int)) = false := dF (by omega)
    simp only [Q3w, Qo4, d0, cond_false]
    obtain ⟨M, m1, m2, m3⟩ := Q111 (R := R) (k := k) (by omega) hp D Y [] (by omega) hs ha (fun r0 r1 r2 r3 r4 r5 r6 r7 r8 r9 => (bif (decide (r0.length = (D ++ Y).length) && true) then (xN r0 r1 r2 r3 r4 r5 r6 r7 r8 r9) else none)) (b := b) (s := s) (nx := nx) (d := d) (x := x) (st := st) (P := P)
    have ml := m1.length_eq
    have i1 : ((D.length + Y.length : Nat) : Int) = (n : Int) := by omega
    rw [i1, List.append_nil] at m3
    have d2 : decide ((D ++ M).length = (D ++ Y).length) = true := by simp; omega
    simp only [List.append_nil, d2, Bool.and_self, cond_true] at m3
    by_cases hY : Y = []
    ·subst hY
     have hM := List.length_eq_zero_iff.1 ml
     subst hM
     refine ⟨[], trivial, trivial, List.Perm.refl _, ?_⟩
     exact m3.trans (by simp)
    ·have hpos := List.length_pos_iff.2 hY
     refine ⟨[M], ⟨by omega, by omega, fun h => absurd rfl h, trivial⟩, ⟨m2, fun u hu v hv => by simp at hv, trivial⟩, by simpa using m1, ?_⟩
     exact m3.trans (by simp)
theorem Q1bw {k : Nat} (hk : 30000 < k) (hp : 1 ≤ p) {l : LI} (hl : l.length ≤ 4096) (hs : SCs w p l) (ha : Asc l) (K : LI → KS R) : f113 k l b p s d w x st P nx K = K (skL (key2 w p) l) b p s d w x st P nx := by
 rw [Qr9]
 obtain ⟨k, rfl⟩ := Q48 (show 0 < k by omega)
 simp only [f113d, Qrq]
 obtain ⟨k, rfl⟩ := Q48 (show 0 < k by omega)
 simp only [f137d, Qer, Qes]
 obtain ⟨NB, n1, n2, n3, n4⟩ := Qe3 k (by omega) hp (fun r0 r1 r2 r3 r4 r5 r6 r7 r8 r9 => Q3c k (fun r2052_0 r2052_1 r2052_2 r2052_3 r2052_4 r2052_5 r2052_6 r2052_7 r2052_8 r2052_9 => (bif (decide (r2052_0.length = l.length) && true) then (K r2052_0 r2052_1 r2052_2 r2052_3 r2052_4 r2052_5 r2052_6 r2052_7 r2052_8 r2052_9) else none)) (l.length : Int) k 20 r0 r1 r2 r3 r4 r5 r6 r7 r8 r9) l.length hl l.length k [] l (Nat.le_refl _) (by omega) (by simp) hs ha (b := b) (s := s) (nx := nx) (d := d) (x := x) (st := st) (P := P)
 simp only [List.nil_append, List.length_nil, Nat.zero_add] at n4
 refine n4.trans ?_
 obtain ⟨M, m1, m2, m3⟩ := Qfo k (by omega) hp (fun r2052_0 r2052_1 r2052_2 r2052_3 r2052_4 r2052_5 r2052_6 r2052_7 r2052_8 r2052_9 => (bif (decide (r2052_0.length = l.length) && true) then (K r2052_0 r2052_1 r2052_2 r2052_3 r2052_4 r2052_5 r2052_6 r2052_7 r2052_8 r2052_9) else none)) l.length hl l.length k 20 NB (by omega) (by omega) (by omega) (by omega) n1 n2 n3.length_eq (hs.perm n3) (b := b) (s := s) (nx := nx) (d := d) (x := x) (st := st) (P := P)
 refine m3.trans ?_
 have hp1 : M.Perm l := m1.trans n3
 have d2 : decide (M.length = l.length) = true := by simpa using hp1.length_eq
 have hn : ((skL (key2 w p) l).map (key2 w p)).Nodup := (((Qk (key2 w p) l).trans hp1.symm).map _).nodup_iff.2 m2.nodup
 have e : M = skL (key2 w p) l := (Q3i (key2 w p) ((Qk (key2 w p) l).trans hp1.symm) hn (Q5t _ l) m2.le).symm
 simp only [d2, Bool.and_self, cond_true]
 rw [e]
end Go.Proofs.YtecnlienmpdlaaaGreat.PM

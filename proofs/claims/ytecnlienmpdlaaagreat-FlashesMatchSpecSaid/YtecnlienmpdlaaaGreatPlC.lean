import Derived.Test.YtecnlienmpdlaaaGreatPlB
import Derived.Test.YtecnlienmpdlaaaGreatPlS
set_option linter.unusedSimpArgs false
set_option linter.unusedVariables false
namespace Go.Proofs.YtecnlienmpdlaaaGreat.PM
open Go Go.Proofs.YtecnlienmpdlaaaGreat.Bt
noncomputable section
variable {R : Type} {b p s nx : Int} {d w x st : LI} {P : LFd}
structure FlashIn (b p s : Int) (d w x : LI) : Prop where
 dB : B d
 d : d.length ≤ 140737488351232
 w : w.length ≤ 17592186043904
 x : x.length ≤ 17592186043904
structure FlashOk (b p s : Int) (d w x : LI) : Prop where
 dB : B d
 hb : 1 ≤ b ∧ b ≤ 64
 hp : 1 ≤ p ∧ p ≤ 64
 hs : 64 ≤ s ∧ s ≤ 1024
 hd : (d.length : Int) = b * p * s
 hw : (w.length : Int) = b
 hx : x.length ≤ 17592186043904
theorem FlashIn.good (h : FlashIn b p s d w x) (hc : Qi b p s d w x = 0) : FlashOk b p s d w x := by
 unfold Qi at hc
 by_cases h1 : Q21 b p s ≠ 0
 ·rw [if_pos h1] at hc; exact absurd hc h1
 ·rw [if_neg h1] at hc
  by_cases h2 : (d.length : Int) ≠ b * p * s
  ·rw [if_pos h2] at hc; exact absurd hc (by decide)
  ·rw [if_neg h2] at hc
   by_cases h3 : (w.length : Int) ≠ b
   ·rw [if_pos h3] at hc; exact absurd hc (by decide)
   ·obtain ⟨a1, a2, a3, _⟩ := Qj6 (by simpa using h1)
    exact ⟨h.dB, a1, a2, a3, by simpa using h2, by simpa using h3, h.x⟩
theorem FlashOk.N (h : FlashOk b p s d w x) : ∃ N : Nat, b * p = (N : Int) ∧ 1 ≤ N ∧ N ≤ 4096 := by
 have := Qo h.hb h.hp h.hs
 exact ⟨(b * p).toNat, by omega, by omega, by omega⟩
theorem FlashOk.look (h : FlashOk b p s d w x) : PgsOk (lookF b p s d x).pages := by
 have := Q1cu (x := x) h.dB h.hb h.hp h.hs h.hd
 have hp := Qo h.hb h.hp h.hs
 exact ⟨by have := this.len; omega, this.ok, this.keys⟩
def stOf (p s : Int) (d x : LI) (n : Nat) : Int := if x.contains ((n : Int) / p) then 0 else (decF (pageOf d s n)).1
def Qu (p s : Int) (d x : LI) : Nat → Nat → LI
 | _, 0 => []
 | n, m + 1 => stOf p s d x n :: Qu p s d x (n + 1) m
theorem Q7k (p s : Int) (d x : LI) : ∀ n m, (Qu p s d x n m).length = m
 | _, 0 => rfl
 | n, m + 1 => by simp only [Qu, List.length_cons, Q7k p s d x (n + 1) m]
theorem Qlr (p s : Int) (d x : LI) : ∀ (m n : Nat) (A : Lk), (lkFrom p s d x m n A).states = A.states ++ Qu p s d x n m
 | 0, n, A => by simp [lkFrom, Qu]
 | m + 1, n, A => by
   simp only [lkFrom, Qu]
   rw [Qlr p s d x m (n + 1)]
   have e : (lkStep p s d x n A).states = A.states ++ [stOf p s d x n] := by
    unfold lkStep stOf
    split <;> rfl
   rw [e, List.append_assoc]
   rfl
theorem Qcn (b p s : Int) (d x : LI) : (lookF b p s d x).states = Qu p s d x 0 (b * p).toNat := by
 unfold lookF
 rw [Qlr]
 rfl
theorem Q1fs {k : Nat} (h : FlashIn b p s d w x) (hk : w.length + x.length + 20000 < k) (K : Int → LI → Oq R) :
  f17 k b p s d w x K = if Qi b p s d w x ≠ 0 then K (Qi b p s d w x) [] else K 0 (Qu p s d x 0 (b * p).toNat) := by
 have hw := h.w
 have hx := h.x
 rw [Q113]
 obtain ⟨k, rfl⟩ := Q9 (show 0 < k by omega)
 simp only [f17d, Qs3 b p s d w x (show _ < k by omega) (by omega) (by omega), Q1g]
 by_cases hc : Qi b p s d w x = 0
 ·have g := h.good hc
  rw [if_neg (by simpa using hc)]
  simp only [hc, decide_true, Bool.not_true, cond_false, Q11m (show x.length + 8000 < k by omega) (by omega) g.dB g.hb g.hp g.hs g.hd, Qcn]
 ·rw [if_pos hc]
  simp only [hc, decide_false, Bool.not_false, cond_true]
theorem Qyy (k : Nat) (K : Bool → Oq R) (x0 : Oq R) (a : Int) (hl : x.length < 4611686018427387904) (y1 y2 y3 : Int) (z1 z2 : LI) : ∀ (q f i : Nat), i + q = x.length → q < f →
  Q4n k K x0 a y1 y2 y3 z1 z2 x f (i : Int) = if (x.drop i).contains a then K true else x0
 | q, 0, i, _, h => absurd h (Nat.not_lt_zero _)
 | 0, f + 1, i, hi, _ => by
   have h1 : decide ((i : Int) < (x.length : Int)) = false := dF (by omega)
   simp only [Q4n, Qnl, h1, cond_false]
   rw [List.drop_of_length_le (by omega)]
   rfl
 | q + 1, f + 1, i, hi, hf => by
   have h1 : decide ((i : Int) < (x.length : Int)) = true := dT (by omega)
   have h0 : decide ((0 : Int) ≤ (i : Int)) = true := by simp
   have hw : IntKind.i64.wrap ((i : Int) + 1) = ((i + 1 : Nat) : Int) := wj (by omega)
   have hli : i < x.length := by omega
   have ih := Qyy k K x0 a hl y1 y2 y3 z1 z2 q f (i + 1) (by omega) (by omega)
   simp only [Q4n, Qnl, h1, h0, cond_true, Bool.and_self, Int.toNat_natCast, hw, Q1s hli]
   rw [List.drop_eq_getElem_cons hli, List.contains_cons]
   have e : (x[i] == a) = (a == x[i]) := by rw [Qhr, Qhr, decide_eq_decide]; exact eq_comm
   rw [e]
   cases a == x[i] with
   | true => simp
   | false => simpa using ih
theorem Q107 {k : Nat} (hk : x.length + 3 < k) (hl : x.length < 4611686018427387904) (a : Int) (K : Bool → Oq R) : f101 k b p s d w x a K = K (x.contains a) := by
 rw [Qqy]
 obtain ⟨k, rfl⟩ := Q9 (show 0 < k by omega)
 simp only [f101d, Qe8]
 refine (Qyy k K _ a hl b p s d w x.length k 0 (by omega) (by omega)).trans ?_
 rw [List.drop_zero]
 cases x.contains a <;> rfl
theorem Q1a1 {k : Nat} (hk : 0 < k) {b p s n : Int} {d w x : LI} (hb : 1 ≤ b ∧ b ≤ 64) (hp : 1 ≤ p ∧ p ≤ 64) (hs : 64 ≤ s ∧ s ≤ 1024) (hd : (d.length : Int) = b * p * s) (h0 : 0 ≤ n) (h1 : n < b * p) (K : LI → Oq R) :
  f90 k b p s d w x n K = K (pageOf d s n) := by
 have h := Q7d hb hp hs hd h0 h1
 have h5 := Qo hb hp hs
 rw [Q12y]
 obtain ⟨k, rfl⟩ := Q9 hk
 have e1 : IntKind.i64.wrap (n * s) = n * s := wi (by omega) (by omega)
 have e2 : IntKind.i64.wrap (n + 1) = n + 1 := wi (by omega) (by omega)
 have e3 : IntKind.i64.wrap ((n + 1) * s) = (n + 1) * s := wi (by omega) (by omega)
 have d1 : decide (0 ≤ n * s) = true := by simpa using h.1
 have d2 : decide (n * s ≤ (n + 1) * s) = true := dT (by omega)
 have d3 : decide ((n + 1) * s ≤ (d.length : Int)) = true := by simpa using h.2.2.2
 simp only [f90d, e1, e2, e3, d1, d2, d3, Bool.and_self, cond_true]
 rfl
theorem Qj0 {n : Nat} {p : Int} (hp : 1 ≤ p ∧ p ≤ 64) (hn : n ≤ 100000) : IntKind.i64.wrap (Int.tdiv (n : Int) p) = (n : Int) / p ∧ 0 ≤ (n : Int) / p := by
 rw [Qp4 (Int.natCast_nonneg n)]
 have h2 : 0 ≤ (n : Int) / p := Int.ediv_nonneg (by omega) (by omega)
 have h3 : (n : Int) / p ≤ n := Int.ediv_le_self _ (by omega)
 exact ⟨wi (by omega) (by omega), h2⟩
theorem Q19z {k : Nat} (h : FlashOk b p s d w x) (hk : x.length + 8000 < k) {n : Nat} (hn : (n : Int) < b * p) (K : Int → Oq R) : f61 k b p s d w x (n : Int) K = K (stOf p s d x n) := by
 have hpb := Qo h.hb h.hp h.hs
 have hx := h.hx
 rw [Q11x]
 obtain ⟨k, rfl⟩ := Q9 (show 0 < k by omega)
 have hpz : (!(p == 0)) = true := by
  have := h.hp
  have : ¬ p = 0 := by omega
  simp [this]
 simp only [f61d, hpz, cond_true, (Qj0 h.hp (show n ≤ 100000 by omega)).1, Q107 (show x.length + 3 < k by omega) (by omega)]
 unfold stOf
 cases hc : x.contains ((n : Int) / p) with
 | true => rfl
 | false =>
   have hl := Qb7 h.hb h.hp h.hs h.hd (Int.natCast_nonneg n) hn
   have hBp : B (pageOf d s n) := (h.dB.take _).drop _
   have hs' := h.hs
   simp only [cond_false, Q1a1 (show 0 < k by omega) h.hb h.hp h.hs h.hd (Int.natCast_nonneg n) hn, Q10n hBp (show 64 ≤ (pageOf d s n).length by omega) (by omega) (show 6000 < k by omega), apP, Bool.false_eq_true, if_false]
theorem Qbz {k : Nat} (h : FlashOk b p s d w x) (hk : 0 < k) (K : Int → Oq R) : f60 k b p s d w x K = K (b * p) := by
 have hpb := Qo h.hb h.hp h.hs
 rw [Q11w]
 obtain ⟨k, rfl⟩ := Q9 hk
 have e1 : IntKind.i64.wrap (b * p) = b * p := wi (by omega) (by omega)
 simp only [f60d, e1]
theorem Qg3 (k : Nat) (x0 : LI → Oq R) (h : FlashOk b p s d w x) (hk : x.length + 8000 < k) {N : Nat} (hN : b * p = (N : Int)) (hN2 : N ≤ 4096) : ∀ (m f n : Nat) (c : LI), n + m = N → m < f → c.length = n →
  Qa2 k x0 b p s d w x f (n : Int) c = x0 (c ++ Qu p s d x n m)
 | m, 0, n, _, _, h, _ => absurd h (Nat.not_lt_zero _)
 | 0, f + 1, n, c, hn, _, _ => by
   have d0 : decide ((n : Int) < (N : Int)) = false := dF (by omega)
   simp only [Qa2, Q115, Qbz h (show 0 < k by omega), hN, d0, cond_false, Qu, List.append_nil]
 | m + 1, f + 1, n, c, hn, hf, hc => by
   have d0 : decide ((n : Int) < (N : Int)) = true := dT (by omega)
   have w1 : IntKind.i64.wrap ((n : Int) + 1) = ((n + 1 : Nat) : Int) := wj (by omega)
   have d1 : ∀ y : Int, decide (c.length + ([y] : LI).length ≤ LIM 8) = true := fun y => by rw [LIM8, decide_eq_true_eq]; simp; omega
   simp only [Qa2, Q115, Qbz h (show 0 < k by omega), hN, d0, cond_true, Q19z h hk (show (n : Int) < b * p by omega), d1, w1, Qu]
   refine (Qg3 k x0 h hk hN hN2 m f (n + 1) _ (by omega) (by omega) (by simp [hc])).trans ?_
   simp
theorem Q1ft {k : Nat} (h : FlashIn b p s d w x) (hk : w.length + x.length + 20000 < k) (K : Int → LI → Oq R) :
  f18 k b p s d w x K = if Qi b p s d w x ≠ 0 then K (Qi b p s d w x) [] else K 0 (Qu p s d x 0 (b * p).toNat) := by
 have hw := h.w
 have hx := h.x
 rw [Q116]
 obtain ⟨k, rfl⟩ := Q9 (show 0 < k by omega)
 simp only [f18d, Qs5 b p s d w x (show _ < k by omega) (by omega) (by omega), Q1g]
 by_cases hc : Qi b p s d w x = 0
 ·have g := h.good hc
  obtain ⟨N, hN, _, hN2⟩ := g.N
  rw [if_neg (by simpa using hc)]
  simp only [hc, decide_true, Bool.not_true, cond_false, Qki]
  refine (Qg3 k _ g (by omega) hN hN2 N k 0 [] (by omega) (by omega) rfl).trans ?_
  rw [List.nil_append, hN]
  rfl
 ·rw [if_pos hc]
  simp only [hc, decide_false, Bool.not_false, cond_true]
def frL : Nat → LI → LI
 | _, [] => []
 | i, z :: l => if z = 1 then (i : Int) :: frL (i + 1) l else frL (i + 1) l
theorem Q137 : ∀ (l : LI) (i : Nat) (z : Int), z ∈ frL i l → (i : Int) ≤ z ∧ z < ((i + l.length : Nat) : Int)
 | [], _, _, h => by cases h
 | y :: l, i, z, h => by
   simp only [frL] at h
   have ih := Q137 l (i + 1) z
   simp only [List.length_cons]
   split at h
   ·rcases List.mem_cons.1 h with rfl | h
    ·omega
    ·have := ih h; omega
   ·have := ih h; omega
theorem Qoh : ∀ (l : LI) (i : Nat), Asc (frL i l)
 | [], _ => List.Pairwise.nil
 | y :: l, i => by
   simp only [frL]
   split
   ·refine List.pairwise_cons.2 ⟨fun z hz => ?_, Qoh l (i + 1)⟩
    have := (Q137 l (i + 1) z hz).1
    omega
   ·exact Qoh l (i + 1)
theorem Qoi : ∀ (l : LI) (i : Nat), (frL i l).length ≤ l.length
 | [], _ => Nat.le_refl _
 | y :: l, i => by
   simp only [frL, List.length_cons]
   have := Qoi l (i + 1)
   split
   ·simp only [List.length_cons]; omega
   ·omega
theorem sc_of (h : FlashOk b p s d w x) {N : Nat} (hN : b * p = (N : Int)) (hN2 : N ≤ 4096) {z : Int} (h0 : 0 ≤ z) (h1 : z < N) : SC w p z := by
 refine ⟨h0, by omega, ?_⟩
 rw [h.hw]
 exact Int.ediv_lt_of_lt_mul (by have := h.hp; omega) (by rw [hN]; exact h1)
def freeF (w : LI) (p : Int) (S : LI) : LI := skL (key2 w p) (frL 0 S)
theorem Q8y (k : Nat) (hk : 0 < k) (x0 : LI → Oq R) (S : LI) (hS : S.length ≤ 4096) (y1 y2 y3 y4 : Int) (z1 z2 z3 z4 : LI) (Q : LFd) : ∀ (m f i : Nat) (c : LI), i + m = S.length → m < f → c.length ≤ i →
  Qab k x0 S (S.length : Int) y1 y2 y3 z1 z2 z3 z4 Q y4 f (i : Int) c = x0 (c ++ frL i (S.drop i))
 | m, 0, i, _, _, h, _ => absurd h (Nat.not_lt_zero _)
 | 0, f + 1, i, c, hi, _, _ => by
   have h1 : decide ((i : Int) < (S.length : Int)) = false := dF (by omega)
   simp only [Qab, Q124, h1, cond_false]
   rw [List.drop_of_length_le (by omega)]
   simp [frL]
 | m + 1, f + 1, i, c, hi, hf, hc => by
   have h1 : decide ((i : Int) < (S.length : Int)) = true := dT (by omega)
   have h0 : decide ((0 : Int) ≤ (i : Int)) = true := by simp
   have hw : IntKind.i64.wrap ((i : Int) + 1) = ((i + 1 : Nat) : Int) := wj (by omega)
   have hli : i < S.length := by omega
   have d1 : ∀ y : Int, decide (c.length + ([y] : LI).length ≤ LIM 8) = true := fun y => by rw [LIM8, decide_eq_true_eq]; simp; omega
   simp only [Qab, Q124, h1, h0, cond_true, Bool.and_self, Int.toNat_natCast, hw, Q1s hli, Qc0, Qik, d1, Qhr]
   rw [List.drop_eq_getElem_cons hli]
   simp only [frL]
   by_cases e : S[i] = 1
   ·rw [if_pos e]
    simp only [e, decide_true, cond_true]
    refine (Q8y k hk x0 S hS y1 y2 y3 y4 z1 z2 z3 z4 Q m f (i + 1) _ (by omega) (by omega) (by simp; omega)).trans ?_
    simp
   ·rw [if_neg e]
    simp only [e, decide_false, cond_false]
    exact Q8y k hk x0 S hS y1 y2 y3 y4 z1 z2 z3 z4 Q m f (i + 1) c (by omega) (by omega) (by omega)
theorem Q1g4 {k : Nat} (h : FlashOk b p s d w x) (hk : 40000 < k) {S : LI} (hS : (S.length : Int) = b * p) (K : LI → Oq R) : f67 k b p s d w x S P nx K = K (freeF w p S) := by
 obtain ⟨N, hN, _, hN2⟩ := h.N
 rw [Q125]
 obtain ⟨k, rfl⟩ := Q9 (show 0 < k by omega)
 simp only [f67d, Qku]
 refine (Q8y k (by omega) _ S (by omega) b p s nx d w x S P S.length k 0 [] (by omega) (by omega) (Nat.le_refl _)).trans ?_
 rw [List.drop_zero, List.nil_append]
 have hl := Qoi S 0
 rw [Q1bw (show 30000 < k by omega) h.hp.1 (show (frL 0 S).length ≤ 4096 by omega) (fun z hz => by
  have := Q137 S 0 z hz
  exact sc_of h hN hN2 (by omega) (by omega)) (Qoh S 0)]
 have d1 : decide ((skL (key2 w p) (frL 0 S)).length = (frL 0 S).length) = true := by simpa using Q35 _ _
 simp only [d1, Bool.and_self, cond_true]
 rfl
theorem Q1fu {k : Nat} (h : FlashIn b p s d w x) (hk : w.length + x.length + 60000 < k) (K : Int → LI → Oq R) :
  f22 k b p s d w x K = if Qi b p s d w x ≠ 0 then K (Qi b p s d w x) [] else K 0 (freeF w p (Qu p s d x 0 (b * p).toNat)) := by
 have hw := h.w
 have hx := h.x
 rw [Q11f]
 obtain ⟨k, rfl⟩ := Q9 (show 0 < k by omega)
 simp only [f22d, Qs3 b p s d w x (show _ < k by omega) (by omega) (by omega), Q1g]
 by_cases hc : Qi b p s d w x = 0
 ·have g := h.good hc
  obtain ⟨N, hN, _, hN2⟩ := g.N
  rw [if_neg (by simpa using hc)]
  simp only [hc, decide_true, Bool.not_true, cond_false, Q11m (show x.length + 8000 < k by omega) (by omega) g.dB g.hb g.hp g.hs g.hd, Qcn]
  rw [Q1g4 g (by omega) (by rw [Q7k, hN]; omega)]
 ·rw [if_pos hc]
  simp only [hc, decide_false, Bool.not_false, cond_true]
theorem Q1dw {T U : LI} {y : Int} (hS : SCs w p (T ++ U)) (hy : SC w p y) (hso : Srt w p (T ++ U)) (h2 : ∀ z ∈ U, keyW w p y < keyW w p z) (h3 : ∀ z, T.getLast? = some z → keyW w p z ≤ keyW w p y) (hcr : ∀ u ∈ T ++ U, u < y) : Srt w p (T ++ y :: U) := by
 have hso' := List.pairwise_append.1 hso
 refine List.pairwise_append.2 ⟨hso'.1, List.pairwise_cons.2 ⟨fun z hz => ?_, hso'.2.1⟩, fun u hu v hv => ?_⟩
 ·exact (Q79 hy (hS z (by simp [hz]))).2 (.inl (h2 z hz))
 ·rcases List.mem_cons.1 hv with rfl | hv
  ·have hus : SC w p u := hS u (by simp [hu])
   rw [Q79 hus hy]
   obtain ⟨z, hz⟩ : ∃ z, T.getLast? = some z := by
    cases hT : T.getLast? with
    | none => rw [List.getLast?_eq_none_iff] at hT; subst hT; cases hu
    | some z => exact ⟨z, rfl⟩
   have hz1 := h3 z hz
   have hzm := List.mem_of_getLast? hz
   have hzs : SC w p z := hS z (by simp [hzm])
   have huy := hcr u (by simp [hu])
   have huz : key2 w p u ≤ key2 w p z := by
    obtain ⟨i, hi, rfl⟩ := List.getElem_of_mem hu
    rw [List.getLast?_eq_getElem?] at hz
    have e1 := Srt.at_le (l := T) hso'.1 (i := i) (j := T.length - 1) (by omega) (by omega)
    rw [List.getD_eq_getElem?_getD, List.getD_eq_getElem?_getD, hz, List.getElem?_eq_getElem hi] at e1
    exact e1
   by_cases he : u = z
   ·subst he; omega
   ·have : key2 w p u < key2 w p z ∨ key2 w p u = key2 w p z := by omega
    rcases this with h | h
    ·rw [Q79 hus hzs] at h; omega
    ·unfold key2 at h
     have := hus.lo; have := hus.hi; have := hzs.lo; have := hzs.hi
     omega
  ·exact hso'.2.2 u hu v hv
theorem Qfp (k : Nat) (h : FlashOk b p s d w x) (x2 : Int → Oq R) (y1 : Int) (out : LI) (n : Nat) {N : Nat} (hN : b * p = (N : Int)) (hN2 : N ≤ 4096) (hn : n < N) (hol : out.length ≤ 4096) (hs : SCs w p out) : ∀ (i f : Nat), i ≤ out.length → i < f →
  ∃ j, j ≤ i ∧ (∀ z ∈ (out.take i).drop j, keyW w p (n : Int) < keyW w p z) ∧ (∀ z, (out.take j).getLast? = some z → keyW w p z ≤ keyW w p (n : Int)) ∧
    Qa9 k x2 y1 (n : Int) b p s d w x out f (i : Int) = x2 (j : Int)
 | i, 0, _, h => absurd h (Nat.not_lt_zero _)
 | 0, f + 1, _, _ => by
   have d0 : decide (((0 : Nat) : Int) > 0) = false := by decide
   refine ⟨0, Nat.le_refl _, fun z hz => by simp at hz, fun z hz => by simp at hz, ?_⟩
   simp only [Qa9, Q11s, d0]
   rfl
 | i + 1, f + 1, hi, hf => by
   have hil : i < out.length := by omega
   have hz : SC w p out[i] := hs _ (List.getElem_mem hil)
   have hy : SC w p (n : Int) := sc_of h hN hN2 (by omega) (by omega)
   have hp' := h.hp
   have hpz : (!(p == 0)) = true := by
    have : ¬ p = 0 := by omega
    simp [this]
   have d0 : decide (((i + 1 : Nat) : Int) > 0) = true := dT (by omega)
   have w1 : IntKind.i64.wrap (((i + 1 : Nat) : Int) - 1) = (i : Int) := wj (by omega)
   have d1 : decide ((0 : Int) ≤ (i : Int)) = true := by simp
   have d2 : decide ((i : Int) < (out.length : Int)) = true := dT (by omega)
   have g : ∀ q, SC w p q → IntKind.i64.wrap (Int.tdiv q p) = q / p ∧ decide (0 ≤ q / p) = true ∧ decide (q / p < (w.length : Int)) = true := fun q h => by
    have h1 := h.lo
    have h2 := h.hi
    have h3 : 0 ≤ q / p := Int.ediv_nonneg h1 (by omega)
    have h4 : q / p ≤ q := Int.ediv_le_self _ h1
    rw [Qp4 h1]
    exact ⟨wi (by omega) (by omega), by simpa using h3, by simpa using h.ix⟩
   simp only [Qa9, Q11s, d0, w1, d1, d2, hpz, cond_true, Bool.and_self, beq_self_eq_true, Int.toNat_natCast, Q1s hil, (g _ hz).1, (g _ hz).2.1, (g _ hz).2.2, (g _ hy).1, (g _ hy).2.1, (g _ hy).2.2]
   have ek : decide (w.getD (out[i] / p).toNat 0 > w.getD ((n : Int) / p).toNat 0) = decide (keyW w p (n : Int) < keyW w p out[i]) := rfl
   rw [ek]
   have etk : out.take (i + 1) = out.take i ++ [out[i]] := List.take_succ_eq_append_getElem hil
   by_cases hlt : keyW w p (n : Int) < keyW w p out[i]
   ·simp only [hlt, decide_true, cond_true]
    obtain ⟨j, h1, h2, h3, h4⟩ := Qfp k h x2 y1 out n hN hN2 hn hol hs i f (by omega) (by omega)
    refine ⟨j, by omega, fun z hz => ?_, h3, h4⟩
    rw [etk, List.drop_append_of_le_length (by rw [List.length_take]; omega)] at hz
    rcases List.mem_append.1 hz with hz | hz
    ·exact h2 z hz
    ·rw [List.mem_singleton] at hz; rw [hz]; exact hlt
   ·simp only [hlt, decide_false, cond_false]
    refine ⟨i + 1, Nat.le_refl _, fun z hz => ?_, fun z hz => ?_, rfl⟩
    ·rw [List.drop_of_length_le (by rw [List.length_take]; omega)] at hz; cases hz
    ·rw [etk, List.getLast?_append] at hz
     simp at hz
     subst hz; omega
def frR (p s : Int) (d x : LI) (ex : Int) : Nat → Nat → LI
 | _, 0 => []
 | n, m + 1 => if ¬ ((n : Int) / p = ex) ∧ stOf p s d x n = 1 then (n : Int) :: frR p s d x ex (n + 1) m else frR p s d x ex (n + 1) m
theorem Q6h (k : Nat) (hk : x.length + 12000 < k) (h : FlashOk b p s d w x) (x0 : LI → Oq R) (ex : Int) {N : Nat} (hN : b * p = (N : Int)) (hN2 : N ≤ 4096) : ∀ (m f n : Nat) (out : LI), n + m = N → m < f → out.length ≤ n → SCs w p out → Srt w p out → (∀ u ∈ out, u < (n : Int)) →
  ∃ M, M.Perm (out ++ frR p s d x ex n m) ∧ Srt w p M ∧ Q84 k x0 ex b p s d w x f (n : Int) out = x0 M
 | m, 0, n, _, _, h, _, _, _, _ => absurd h (Nat.not_lt_zero _)
 | 0, f + 1, n, out, hn, _, _, _, hso, _ => by
   have d0 : decide ((n : Int) < (N : Int)) = false := dF (by omega)
   refine ⟨out, by simp [frR], hso, ?_⟩
   simp only [Q84, Q11q, Qbz h (show 0 < k by omega), hN, d0, cond_false]
 | m + 1, f + 1, n, out, hn, hf, hol, hs, hso, hlt => by
   have d0 : decide ((n : Int) < (N : Int)) = true := dT (by omega)
   have w1 : IntKind.i64.wrap ((n : Int) + 1) = ((n + 1 : Nat) : Int) := wj (by omega)
   have hp' := h.hp
   have hpz : (!(p == 0)) = true := by
    have : ¬ p = 0 := by omega
    simp [this]
   have hpz' : (!decide (p = 0)) = true := by
    have : ¬ p = 0 := by omega
    simp [this]
   have hy : SC w p (n : Int) := sc_of h hN hN2 (by omega) (by omega)
   simp only [hpz', Q84, Q11q, Qbz h (show 0 < k by omega), hN, d0, cond_true, Qkq, Q11r, hpz, (Qj0 h.hp (show n ≤ 100000 by omega)).1, w1, Qhr]
   by_cases he : (n : Int) / p = ex
   ·have e1 : frR p s d x ex n (m + 1) = frR p s d x ex (n + 1) m := by simp only [frR]; rw [if_neg (by simp [he])]
    rw [e1]
    simp only [he, decide_true, show (true == false) = false from rfl, cond_false]
    exact Q6h k hk h x0 ex hN hN2 m f (n + 1) out (by omega) (by omega) (by omega) hs hso (fun u hu => by have := hlt u hu; omega)
   ·simp only [he, decide_false, beq_self_eq_true, cond_true, Q19z h (show x.length + 8000 < k by omega) (show (n : Int) < b * p by omega), Q1g]
    by_cases h1 : stOf p s d x n = 1
    ·have e1 : frR p s d x ex n (m + 1) = (n : Int) :: frR p s d x ex (n + 1) m := by simp only [frR]; rw [if_pos ⟨he, h1⟩]
     rw [e1]
     simp only [h1, decide_true, Bool.not_true, cond_false, Qkr]
     obtain ⟨j, p1, p2, p3, p4⟩ := Qfp k h (fun y2_2_2 => (bif (decide (0 ≤ y2_2_2) && decide (y2_2_2 ≤ (out.length : Int))) then (bif decide (((out.drop 0).take (Int.toNat y2_2_2)).length ≤ LIM 8) then (bif decide (((out.drop 0).take (Int.toNat y2_2_2)).length + ([(n : Int)] : LI).length ≤ LIM 8) then (bif (decide (0 ≤ y2_2_2) && decide (y2_2_2 ≤ (out.length : Int))) then (bif decide ((((out.drop 0).take (Int.toNat y2_2_2)) ++ ([(n : Int)] : LI)).length + ((out.drop (Int.toNat y2_2_2)).take (out.length - (Int.toNat y2_2_2))).length ≤ LIM 8) then (Q84 k x0 ex b p s d w x f ((n + 1 : Nat) : Int) ((((out.drop 0).take (Int.toNat y2_2_2)) ++ ([(n : Int)] : LI)) ++ ((out.drop (Int.toNat y2_2_2)).take (out.length - (Int.toNat y2_2_2))))) else none) else none) else none) else none) else none)) ex out n hN hN2 (by omega) (by omega) hs out.length k (Nat.le_refl _) (by omega)
     rw [List.take_length] at p2
     have c1 : decide ((0 : Int) ≤ (j : Int)) = true := by simp
     have c2 : decide ((j : Int) ≤ (out.length : Int)) = true := dT (by omega)
     have c3 : decide (((out.drop 0).take j).length ≤ LIM 8) = true := by rw [LIM8, decide_eq_true_eq, List.drop_zero, List.length_take]; omega
     have c4 : decide (((out.drop 0).take j).length + ([(n : Int)] : LI).length ≤ LIM 8) = true := by rw [LIM8, decide_eq_true_eq, List.drop_zero, List.length_take]; simp; omega
     have c5 : decide ((((out.drop 0).take j) ++ ([(n : Int)] : LI)).length + ((out.drop j).take (out.length - j)).length ≤ LIM 8) = true := by rw [LIM8, decide_eq_true_eq, List.drop_zero, List.length_append, List.length_take, List.length_take, List.length_drop]; simp; omega
     have e2 : ((out.drop 0).take j ++ [(n : Int)]) ++ (out.drop j).take (out.length - j) = out.take j ++ (n : Int) :: out.drop j := by
      rw [List.drop_zero, List.take_of_length_le (show (out.drop j).length ≤ out.length - j by rw [List.length_drop]; omega)]; simp
     simp only [Int.toNat_natCast, c1, c2, c3, c4, c5, Bool.and_self, cond_true, e2] at p4
     have eo : out.take j ++ out.drop j = out := List.take_append_drop j out
     have hso2 : Srt w p (out.take j ++ (n : Int) :: out.drop j) := Q1dw (eo.symm ▸ hs) hy (eo.symm ▸ hso) p2 p3 (eo.symm ▸ hlt)
     have hperm : (out.take j ++ (n : Int) :: out.drop j).Perm ((n : Int) :: out) := by
      refine List.perm_middle.trans ?_
      rw [eo]
     obtain ⟨M, m1, m2, m3⟩ := Q6h k hk h x0 ex hN hN2 m f (n + 1) (out.take j ++ (n : Int) :: out.drop j) (by omega) (by omega) (by rw [hperm.length_eq, List.length_cons]; omega) (fun z hz => by
      rcases List.mem_cons.1 (hperm.mem_iff.1 hz) with rfl | hz
      ·exact hy
      ·exact hs z hz) hso2 (fun u hu => by
      rcases List.mem_cons.1 (hperm.mem_iff.1 hu) with rfl | hu
      ·omega
      ·have := hlt u hu; omega)
     refine ⟨M, m1.trans ?_, m2, p4.trans m3⟩
     refine (List.Perm.append_right _ hperm).trans ?_
     rw [List.cons_append]
     exact List.perm_middle.symm
    ·have e1 : frR p s d x ex n (m + 1) = frR p s d x ex (n + 1) m := by simp only [frR]; rw [if_neg (by simp [h1])]
     rw [e1]
     simp only [h1, decide_false, Bool.not_false, cond_true]
     exact Q6h k hk h x0 ex hN hN2 m f (n + 1) out (by omega) (by omega) (by omega) hs hso (fun u hu => by have := hlt u hu; omega)
theorem Qf6 {p s : Int} {d x : LI} (hp : 1 ≤ p) {ex : Int} (hex : ex < 0) : ∀ (m n : Nat), frR p s d x ex n m = frL n (Qu p s d x n m)
 | 0, n => rfl
 | m + 1, n => by
   have h2 : 0 ≤ (n : Int) / p := Int.ediv_nonneg (by omega) (by omega)
   simp only [frR, Qu, frL, Qf6 hp hex m (n + 1)]
   by_cases h : stOf p s d x n = 1
   ·rw [if_pos ⟨by omega, h⟩, if_pos h]
   ·rw [if_neg (by simp [h]), if_neg h]
theorem Q1c6 {k : Nat} (h : FlashOk b p s d w x) (hk : x.length + 20000 < k) {ex : Int} (hex : ex < 0) (K : LI → Oq R) : f51 k b p s d w x ex K = K (freeF w p (Qu p s d x 0 (b * p).toNat)) := by
 obtain ⟨N, hN, _, hN2⟩ := h.N
 rw [Q11t]
 obtain ⟨k, rfl⟩ := Q9 (show 0 < k by omega)
 simp only [f51d, Qkp]
 obtain ⟨M, m1, m2, m3⟩ := Q6h k (by omega) h (fun y0_0_0 => K y0_0_0) ex hN hN2 N k 0 [] (by omega) (by omega) (Nat.le_refl _) (fun z hz => by cases hz) List.Pairwise.nil (fun z hz => by cases hz)
 refine m3.trans ?_
 rw [List.nil_append, Qf6 h.hp.1 hex] at m1
 have e : M = freeF w p (Qu p s d x 0 (b * p).toNat) := by
  rw [hN]
  unfold freeF
  have hn : ((skL (key2 w p) (frL 0 (Qu p s d x 0 N))).map (key2 w p)).Nodup := (((Qk (key2 w p) _).trans m1.symm).map _).nodup_iff.2 m2.nodup
  exact (Q3i (key2 w p) ((Qk (key2 w p) _).trans m1.symm) hn (Q5t _ _) m2.le).symm
 rw [e]
theorem Q1c5 {k : Nat} (h : FlashIn b p s d w x) (hk : w.length + x.length + 60000 < k) (K : Int → LI → Oq R) :
  f23 k b p s d w x K = if Qi b p s d w x ≠ 0 then K (Qi b p s d w x) [] else K 0 (freeF w p (Qu p s d x 0 (b * p).toNat)) := by
 have hw := h.w
 have hx := h.x
 rw [Q11g]
 obtain ⟨k, rfl⟩ := Q9 (show 0 < k by omega)
 simp only [f23d, Qs5 b p s d w x (show _ < k by omega) (by omega) (by omega), Q1g]
 by_cases hc : Qi b p s d w x = 0
 ·have g := h.good hc
  rw [if_neg (by simpa using hc)]
  simp only [hc, decide_true, Bool.not_true, cond_false]
  exact Q1c6 g (by omega) (by decide) _
 ·rw [if_pos hc]
  simp only [hc, decide_false, Bool.not_false, cond_true]
theorem Qmi (k : Nat) (x2 : Bool → Oq R) (out : List Fnd) (ho : out.length ≤ 4096) (y1 y2 y3 y4 g y5 : Int) (z1 z2 z3 z4 : LI) (t1 t2 : Bool) (nm : BA) : ∀ (m f i : Nat) (sn : Bool), i + m = out.length → m < f →
  Q6y k x2 y1 y2 y3 y4 z1 z2 z3 out g t1 nm y5 t2 z4 f sn (i : Int) = x2 (sn || (out.drop i).any fun y => Fnd.gen y == g && (Fnd.name y).toList == nm.toList)
 | m, 0, i, _, _, h => absurd h (Nat.not_lt_zero _)
 | 0, f + 1, i, sn, hi, _ => by
   have h1 : decide ((i : Int) < (out.length : Int)) = false := dF (by omega)
   simp only [Q6y, Q12m, h1]
   rw [List.drop_of_length_le (by omega)]
   simp
 | m + 1, f + 1, i, sn, hi, hf => by
   have h1 : decide ((i : Int) < (out.length : Int)) = true := dT (by omega)
   have h0 : decide ((0 : Int) ≤ (i : Int)) = true := by simp
   have hw : IntKind.i64.wrap ((i : Int) + 1) = ((i + 1 : Nat) : Int) := wj (by omega)
   have hil : i < out.length := by omega
   have ih := fun sn => Qmi k x2 out ho y1 y2 y3 y4 g y5 z1 z2 z3 z4 t1 t2 nm m f (i + 1) sn (by omega) (by omega)
   simp only [Q6y, Q12m, h1, h0, cond_true, Bool.and_self, Int.toNat_natCast, hw, Q3g hil, beq_self_eq_true, beq_true]
   cases sn with
   | true => simp
   | false =>
     simp only [Bool.not_false, cond_true, Bool.false_or]
     rw [List.drop_eq_getElem_cons hil, List.any_cons]
     show (bif Fnd.gen out[i] == g then Q6y k x2 y1 y2 y3 y4 z1 z2 z3 out g t1 nm y5 t2 z4 f ((Fnd.name out[i]).toList == nm.toList) ((i + 1 : Nat) : Int) else Q6y k x2 y1 y2 y3 y4 z1 z2 z3 out g t1 nm y5 t2 z4 f false ((i + 1 : Nat) : Int)) = _
     rw [ih, ih]
     cases Fnd.gen out[i] == g <;> simp
theorem Q1bg (out : List Fnd) (z : Fnd) : (out.any fun y => Fnd.gen y == z.gen && (Fnd.name y).toList == z.name.toList) = !isNew z out := by
 unfold isNew
 rw [Bool.not_not]
 congr 1
 funext y
 rw [Bool.eq_iff_iff, Bool.and_eq_true, beq_iff_eq, Q2d, Q16 (kt := keyT) rfl]
 unfold Fnd.key
 rw [Prod.mk.injEq, Prod.mk.injEq]
 simp
theorem Qe4 (k : Nat) (h : FlashOk b p s d w x) (hk : x.length + 8000 < k) (x0 : List Fnd → Oq R) {N : Nat} (hN : b * p = (N : Int)) (hN2 : N ≤ 4096) : ∀ (m f n : Nat) (A : Lk), n + m = N → m < f → A.Ok n →
  Q6x k x0 b p s d w x f (n : Int) A.pages = x0 (lkFrom p s d x m n A).pages
 | m, 0, n, _, _, h, _ => absurd h (Nat.not_lt_zero _)
 | 0, f + 1, n, A, hn, _, _ => by
   have d0 : decide ((n : Int) < (N : Int)) = false := dF (by omega)
   simp only [Q6x, Q12k, Qbz h (show 0 < k by omega), hN, d0, cond_false]
   rfl
 | m + 1, f + 1, n, A, hn, hf, hA => by
   have d0 : decide ((n : Int) < (N : Int)) = true := dT (by omega)
   have hnN : (n : Int) < b * p := by omega
   have w1 : IntKind.i64.wrap ((n : Int) + 1) = ((n + 1 : Nat) : Int) := wj (by omega)
   have hp' := h.hp
   have hs' := h.hs
   have hx := h.hx
   have hpz : (!(p == 0)) = true := by
    have : ¬ p = 0 := by omega
    simp [this]
   have hA' := Qcm h.dB h.hb h.hp h.hs h.hd hnN hA (x := x)
   have ih := Qe4 k h hk x0 hN hN2 m f (n + 1) (lkStep p s d x n A) (by omega) (by omega) hA'
   have hol := hA.len
   have e : Q6x k x0 b p s d w x (f + 1) (n : Int) A.pages = Q6x k x0 b p s d w x f ((n + 1 : Nat) : Int) (lkStep p s d x n A).pages := by
    simp only [Q6x, Q12k, Qbz h (show 0 < k by omega), hN, d0, cond_true, Ql6, Q12l, hpz, (Qj0 h.hp (show n ≤ 100000 by omega)).1, w1, Q107 (show x.length + 3 < k by omega) (show x.length < 4611686018427387904 by omega)]
    cases hc : x.contains ((n : Int) / p) with
    | true =>
      have el : lkStep p s d x n A = ⟨A.next, A.states ++ [0], A.pages⟩ := by unfold lkStep; rw [if_pos hc]
      rw [el]
      rfl
    | false =>
      have hl := Qb7 h.hb h.hp h.hs h.hd (Int.natCast_nonneg n) hnN
      have hBp : B (pageOf d s n) := (h.dB.take _).drop _
      obtain ⟨D, hD⟩ : ∃ D, D = decF (pageOf d s n) := ⟨_, rfl⟩
      have el : (lkStep p s d x n A).pages = addF n D A.pages := by
       unfold lkStep; rw [if_neg (by rw [hc]; exact Bool.false_ne_true), ← hD]
      rw [el]
      have d2 : ∀ y : Fnd, decide (A.pages.length + ([y] : List Fnd).length ≤ LIM 80) = true := fun y => by rw [LIM80, decide_eq_true_eq]; simp; omega
      simp only [cond_false, Q1a1 (show 0 < k by omega) h.hb h.hp h.hs h.hd (Int.natCast_nonneg n) hnN, Q10n hBp (show 64 ≤ (pageOf d s n).length by omega) (by omega) (show 6000 < k by omega), ← hD, apP, Ql7]
      refine (Qmi k _ A.pages (by omega) _ _ _ _ _ _ _ _ _ _ _ _ _ A.pages.length k 0 _ (by omega) (by omega)).trans ?_
      rw [List.drop_zero]
      have ea := Q1bg A.pages (mkF n D)
      have ea' : (A.pages.any fun y => Fnd.gen y == D.2.1 && (Fnd.name y).toList == D.2.2.2.1.toList) = !isNew (mkF n D) A.pages := ea
      rw [ea', Qc3]
      unfold addF
      have d3 := d2 (mkF n D)
      simp only [mkF] at d3
      by_cases h4 : D.1 = 4
      ·have e4 : (D.1 != 4) = false := by simp [h4]
       rw [e4]
       cases hn' : isNew (mkF n D) A.pages with
       | true =>
         rw [if_pos ⟨h4, rfl⟩]
         simp only [Q87, Bool.not_true, Bool.or_self, Bool.not_false, cond_true, Bool.or_false, d3]
         rfl
       | false =>
         rw [if_neg (by simp)]
         simp only [Q87, Bool.not_true, Bool.or_self, Bool.not_false, cond_true, Bool.or_true, cond_false]
      ·have e4 : (D.1 != 4) = true := by simp [h4]
       rw [e4, if_neg (by simp [h4])]
       simp only [Q87, Bool.true_or, Bool.not_true, cond_false]
   rw [e]
   exact ih
theorem Q1g8 {k : Nat} (h : FlashOk b p s d w x) (hk : x.length + 20000 < k) (K : List Fnd → Oq R) : f72 k b p s d w x K = K (lookF b p s d x).pages := by
 obtain ⟨N, hN, _, hN2⟩ := h.N
 rw [Q12n]
 obtain ⟨k, rfl⟩ := Q9 (show 0 < k by omega)
 simp only [f72d, Ql5]
 refine (Qe4 k h (by omega) (fun y0_0_0 => K y0_0_0) hN hN2 N k 0 ⟨1, [], []⟩ (by omega) (by omega) ⟨⟨by decide, by decide⟩, rfl, Nat.le_refl _, fun x hx => (by cases hx), List.nodup_nil⟩).trans ?_
 unfold lookF
 rw [hN]
 rfl
theorem Q6q {α : Type} {lt : α → α → Prop} (hi : ∀ x, ¬ lt x x) (ht : ∀ x y, lt x y → ¬ lt y x) : ∀ {l m : List α}, l.Pairwise lt → m.Pairwise lt → (∀ x, x ∈ l ↔ x ∈ m) → l = m
 | [], [], _, _, _ => rfl
 | [], y :: m, _, _, h => by have := (h y).2 (List.mem_cons_self ..); cases this
 | x :: l, [], _, _, h => by have := (h x).1 (List.mem_cons_self ..); cases this
 | x :: l, y :: m, hl, hm, h => by
   rw [List.pairwise_cons] at hl hm
   have e : x = y := by
    rcases List.mem_cons.1 ((h x).1 (List.mem_cons_self ..)) with e | hx
    ·exact e
    ·rcases List.mem_cons.1 ((h y).2 (List.mem_cons_self ..)) with e | hy
     ·exact e.symm
     ·exact absurd (hl.1 y hy) (ht y x (hm.1 x hx))
   subst e
   rw [Q6q hi ht hl.2 hm.2 fun z => ?_]
   have hz := h z
   rw [List.mem_cons, List.mem_cons] at hz
   constructor
   ·intro hzl
    rcases hz.1 (.inr hzl) with e | hz
    ·subst e; exact absurd (hl.1 _ hzl) (hi _)
    ·exact hz
   ·intro hzm
    rcases hz.2 (.inr hzm) with e | hz
    ·subst e; exact absurd (hm.1 _ hzm) (hi _)
    ·exact hz
variable {R : Type}
theorem Qqf : ∀ {x y : List UInt8}, Op.bytesLess x y = false → Op.bytesLess y x = false → x = y
 | [], [], _, _ => rfl
 | [], _ :: _, h, _ => by simp [Op.bytesLess] at h
 | _ :: _, [], _, h => by simp [Op.bytesLess] at h
 | a :: x, b :: y, h1, h2 => by
   simp only [Op.bytesLess, Bool.or_eq_false_iff, Bool.and_eq_false_iff, decide_eq_false_iff_not, UInt8.lt_iff_toNat_lt, beq_eq_false_iff_ne, ne_eq, ← UInt8.toNat_inj] at h1 h2
   obtain ⟨h1, g1⟩ := h1
   obtain ⟨h2, g2⟩ := h2
   have e : a.toNat = b.toNat := by omega
   have g1' := g1.resolve_left (fun h => h e)
   have g2' := g2.resolve_left (fun h => h e.symm)
   rw [UInt8.toNat_inj.1 e, Qqf g1' g2']
def ltN (a b : BA) : Prop := ltS a b = true
theorem Q141 (a : BA) : ¬ ltN a a := fun h => by
 have := Q6a h
 unfold ltN ltS at h
 rw [h] at this; cases this
theorem Qlt (a b : BA) : ltN a b → ¬ ltN b a := fun h h' => by
 have := Q6a h
 unfold ltN ltS at h'
 rw [h'] at this; cases this
theorem Q142 {a b : BA} (h : ltS b a = false) (hne : a ≠ b) : ltN a b := by
 unfold ltN
 cases hc : ltS a b with
 | true => rfl
 | false => exact absurd (Qg5 (Qqf hc h)) hne
theorem Qlu {a b c : BA} (h1 : ltN a b) (h2 : ltN b c) : ltN a c := by
 refine Q142 (Qbg (x := c.toList) (y := b.toList) (Q6a h2) (Q6a h1)) fun e => ?_
 subst e
 exact Qlt _ _ h1 h2
theorem Qbi : ∀ (p : BA) (l : List BA), l.Pairwise (fun a b => ltS b a = false) → (∀ z ∈ l, ltS z p = false) → (cmpT p l).Pairwise ltN ∧ ∀ z ∈ cmpT p l, ltN p z
 | _, [], _, _ => ⟨List.Pairwise.nil, fun z hz => by cases hz⟩
 | p, y :: l, hl, hp => by
   rw [List.pairwise_cons] at hl
   obtain ⟨h1, h2⟩ := Qbi y l hl.2 hl.1
   simp only [cmpT]
   cases he : y.toList == p.toList with
   | true =>
     have e := Q2d.1 he
     subst e
     exact ⟨h1, h2⟩
   | false =>
     have hy : ltN p y := Q142 (hp y (List.mem_cons_self ..)) fun e => by subst e; simp at he
     refine ⟨List.pairwise_cons.2 ⟨h2, h1⟩, fun z hz => ?_⟩
     rcases List.mem_cons.1 hz with rfl | hz
     ·exact hy
     ·exact Qlu hy (h2 z hz)
theorem Qk7 {l : List BA} (h : l.Pairwise (fun a b => ltS b a = false)) : (compL l).Pairwise ltN := by
 cases l with
 | nil => exact List.Pairwise.nil
 | cons x l =>
   rw [List.pairwise_cons] at h
   obtain ⟨h1, h2⟩ := Qbi x l h.2 h.1
   exact List.pairwise_cons.2 ⟨h2, h1⟩
theorem Qhu : ∀ (p : BA) (l : List BA), (cmpT p l).Sublist l
 | _, [] => List.Sublist.refl _
 | p, y :: l => by
   simp only [cmpT]
   cases y.toList == p.toList with
   | true => exact (Qhu y l).cons _
   | false => exact (Qhu y l).cons_cons _
theorem Qk8 : ∀ l : List BA, (compL l).Sublist l
 | [] => List.Sublist.refl _
 | x :: l => (Qhu x l).cons_cons _
theorem Qht {z : BA} : ∀ (p : BA) (l : List BA), z ∈ l → z = p ∨ z ∈ cmpT p l
 | p, y :: l, h => by
   simp only [cmpT]
   cases he : y.toList == p.toList with
   | true =>
     have e := Q2d.1 he
     subst e
     rcases List.mem_cons.1 h with rfl | h
     ·exact .inl rfl
     ·exact Qht y l h
   | false =>
     rcases List.mem_cons.1 h with rfl | h
     ·exact .inr (List.mem_cons_self ..)
     ·rcases Qht y l h with rfl | h
      ·exact .inr (List.mem_cons_self ..)
      ·exact .inr (List.mem_cons_of_mem _ h)
theorem Q100 {z : BA} {l : List BA} : z ∈ compL l ↔ z ∈ l := by
 refine ⟨fun h => (Qk8 l).subset h, fun h => ?_⟩
 cases l with
 | nil => cases h
 | cons x l =>
   rcases List.mem_cons.1 h with rfl | h
   ·exact List.mem_cons_self ..
   ·rcases Qht x l h with rfl | h
    ·exact List.mem_cons_self ..
    ·exact List.mem_cons_of_mem _ h
theorem Qtp {z : BA} {P : List Fnd} : z ∈ namesF P ↔ ∃ x ∈ P, Fnd.name x = z := by
 unfold namesF
 rw [Q100, (Q8p _).mem_iff, List.mem_map]
theorem Q8g (P : List Fnd) : (namesF P).Pairwise ltN := Qk7 (Qp1 _)
theorem Q94 (P : List Fnd) : (namesF P).length ≤ P.length := by
 have := (Qk8 (ssL (P.map Fnd.name))).length_le
 rw [Qjf, List.length_map] at this
 exact this
theorem Qld (k : Nat) (P : List Fnd) (y1 : Int) (nm : BA) (out : List BA) (ho : out.length ≤ 4096) : ∀ (i f : Nat), i ≤ out.length → i < f →
  ∃ j, j ≤ i ∧ (∀ z ∈ (out.take i).drop j, ltN nm z) ∧ (∀ z, (out.take j).getLast? = some z → ltN z nm ∨ z = nm) ∧ ∀ x2 : Int → Oq R, Q5h k x2 P y1 nm out f (i : Int) = x2 (j : Int)
 | i, 0, _, h => absurd h (Nat.not_lt_zero _)
 | 0, f + 1, _, _ => by
   have d0 : decide (((0 : Nat) : Int) > 0) = false := by decide
   refine ⟨0, Nat.le_refl _, fun z hz => by simp at hz, fun z hz => by simp at hz, fun x2 => ?_⟩
   simp only [Q5h, Q12r, d0]
   rfl
 | i + 1, f + 1, hi, hf => by
   have hil : i < out.length := by omega
   have d0 : decide (((i + 1 : Nat) : Int) > 0) = true := dT (by omega)
   have w1 : IntKind.i64.wrap (((i + 1 : Nat) : Int) - 1) = (i : Int) := wj (by omega)
   have d1 : decide ((0 : Int) ≤ (i : Int)) = true := by simp
   have d2 : decide ((i : Int) < (out.length : Int)) = true := dT (by omega)
   have st : ∀ x2 : Int → Oq R, Q5h k x2 P y1 nm out (f + 1) ((i + 1 : Nat) : Int) = bif !(Op.bytesLess out[i].toList nm.toList || out[i].toList == nm.toList) then Q5h k x2 P y1 nm out f (i : Int) else x2 ((i + 1 : Nat) : Int) := fun x2 => by
    simp only [Q5h, Q12r, d0, w1, d1, d2, cond_true, Bool.and_self, beq_self_eq_true, Int.toNat_natCast, Q3f hil]
   have etk : out.take (i + 1) = out.take i ++ [out[i]] := List.take_succ_eq_append_getElem hil
   cases hc : (Op.bytesLess out[i].toList nm.toList || out[i].toList == nm.toList) with
   | false =>
     rw [hc] at st
     rw [Bool.or_eq_false_iff] at hc
     obtain ⟨j, h1, h2, h3, h4⟩ := Qld k P y1 nm out ho i f (by omega) (by omega)
     refine ⟨j, by omega, fun z hz => ?_, h3, fun x2 => (st x2).trans (h4 x2)⟩
     rw [etk, List.drop_append_of_le_length (by rw [List.length_take]; omega)] at hz
     rcases List.mem_append.1 hz with hz | hz
     ·exact h2 z hz
     ·rw [List.mem_singleton] at hz; rw [hz]
      exact Q142 hc.1 fun e => by rw [e] at hc; simp at hc
   | true =>
     rw [hc] at st
     refine ⟨i + 1, Nat.le_refl _, fun z hz => ?_, fun z hz => ?_, fun x2 => st x2⟩
     ·rw [List.drop_of_length_le (by rw [List.length_take]; omega)] at hz; cases hz
     ·rw [etk, List.getLast?_append] at hz
      simp at hz
      subst hz
      rw [Bool.or_eq_true, Q2d] at hc
      exact hc
theorem Qu1 {T U : List BA} {y : BA} (hso : (T ++ U).Pairwise ltN) (h2 : ∀ z ∈ U, ltN y z) (h3 : ∀ z, T.getLast? = some z → ltN z y) : (T ++ y :: U).Pairwise ltN := by
 have hso' := List.pairwise_append.1 hso
 refine List.pairwise_append.2 ⟨hso'.1, List.pairwise_cons.2 ⟨h2, hso'.2.1⟩, fun u hu v hv => ?_⟩
 rcases List.mem_cons.1 hv with rfl | hv
 ·rcases List.eq_nil_or_concat T with rfl | ⟨T0, z, rfl⟩
  ·cases hu
  ·simp only [List.concat_eq_append] at *
   have hz := h3 z (by simp)
   rcases List.mem_append.1 hu with hu | hu
   ·exact Qlu ((List.pairwise_append.1 hso'.1).2.2 u hu z (by simp)) hz
   ·rw [List.mem_singleton] at hu; rw [hu]; exact hz
 ·exact hso'.2.2 u hu v hv
theorem Q144 (k : Nat) (hk : 5000 < k) (P : List Fnd) (hP : P.length ≤ 4096) (n : Nat) (hn : n < P.length) (out : List BA) (ho : out.length ≤ n) (hso : out.Pairwise ltN) :
  ∃ out', out'.Pairwise ltN ∧ (∀ z, z ∈ out' ↔ z ∈ out ∨ z = Fnd.name P[n]) ∧ out'.length ≤ n + 1 ∧ ∀ x1 : List BA → Oq R, f76_1 k x1 P (n : Int) out = x1 out' := by
 have c0 : decide ((0 : Int) ≤ (n : Int)) = true := by simp
 have c1 : decide ((n : Int) < (P.length : Int)) = true := dT (by omega)
 obtain ⟨nm, hnm⟩ : ∃ nm, nm = Fnd.name P[n] := ⟨_, rfl⟩
 -- the place is the same whatever follows
 obtain ⟨j, p1, p2, p3, p4⟩ : ∃ j, j ≤ out.length ∧ (∀ z ∈ out.drop j, ltN nm z) ∧ (∀ z, (out.take j).getLast? = some z → ltN z nm ∨ z = nm) ∧ ∀ x2 : Int → Oq R, Q5h k x2 P (n : Int) nm out k (out.length : Int) = x2 (j : Int) := by
  obtain ⟨j, a1, a2, a3, a4⟩ := Qld (R := R) k P (n : Int) nm out (by omega) out.length k (Nat.le_refl _) (by omega)
  rw [List.take_length] at a2
  exact ⟨j, a1, a2, a3, a4⟩
 have e0 : (P.getD n zF) = P[n] := Q3g hn
 have e9 : P[n].2.1.2.2.1 = nm := by rw [hnm]; rfl
 have ins : ∀ x1 : List BA → Oq R, (bif (decide ((0 : Int) ≤ (j : Int)) && decide ((j : Int) ≤ (out.length : Int))) then (bif decide (((out.drop 0).take (Int.toNat (j : Int))).length ≤ LIM 16) then (bif decide (((out.drop 0).take (Int.toNat (j : Int))).length + ([nm] : List BA).length ≤ LIM 16) then (bif (decide ((0 : Int) ≤ (j : Int)) && decide ((j : Int) ≤ (out.length : Int))) then (bif decide ((((out.drop 0).take (Int.toNat (j : Int))) ++ ([nm] : List BA)).length + ((out.drop (Int.toNat (j : Int))).take (out.length - (Int.toNat (j : Int)))).length ≤ LIM 16) then (x1 ((((out.drop 0).take (Int.toNat (j : Int))) ++ ([nm] : List BA)) ++ ((out.drop (Int.toNat (j : Int))).take (out.length - (Int.toNat (j : Int)))))) else none) else none) else none) else none) else none) = x1 (out.take j ++ nm :: out.drop j) := fun x1 => by
  have q1 : decide ((0 : Int) ≤ (j : Int)) = true := by simp
  have q2 : decide ((j : Int) ≤ (out.length : Int)) = true := dT (by omega)
  have q3 : decide (((out.drop 0).take j).length ≤ LIM 16) = true := by rw [LIM16, decide_eq_true_eq, List.drop_zero, List.length_take]; omega
  have q4 : decide (((out.drop 0).take j).length + ([nm] : List BA).length ≤ LIM 16) = true := by rw [LIM16, decide_eq_true_eq, List.drop_zero, List.length_take]; simp; omega
  have q5 : decide ((((out.drop 0).take j) ++ ([nm] : List BA)).length + ((out.drop j).take (out.length - j)).length ≤ LIM 16) = true := by rw [LIM16, decide_eq_true_eq, List.drop_zero, List.length_append, List.length_take, List.length_take, List.length_drop]; simp; omega
  have e2 : ((out.drop 0).take j ++ [nm]) ++ (out.drop j).take (out.length - j) = out.take j ++ nm :: out.drop j := by
   rw [List.drop_zero, List.take_of_length_le (show (out.drop j).length ≤ out.length - j by rw [List.length_drop]; omega)]; simp
  simp only [Int.toNat_natCast, q1, q2, q3, q4, q5, Bool.and_self, cond_true, e2]
 have eo : out.take j ++ out.drop j = out := List.take_append_drop j out
 have insP : (∀ z, (out.take j).getLast? = some z → z ≠ nm) → ((out.take j ++ nm :: out.drop j).Pairwise ltN ∧ (∀ z, z ∈ out.take j ++ nm :: out.drop j ↔ z ∈ out ∨ z = Fnd.name P[n]) ∧ (out.take j ++ nm :: out.drop j).length ≤ n + 1) := fun hne => by
  have hperm : (out.take j ++ nm :: out.drop j).Perm (nm :: out) := by
   refine List.perm_middle.trans ?_
   rw [eo]
  refine ⟨Qu1 (eo.symm ▸ hso) p2 fun z hz => (p3 z hz).resolve_right (hne z hz), fun z => ?_, by rw [hperm.length_eq, List.length_cons]; omega⟩
  rw [hperm.mem_iff, List.mem_cons, hnm]
  exact or_comm
 by_cases hj : j = 0
 ·subst hj
  obtain ⟨i1, i2, i3⟩ := insP fun z hz => by simp at hz
  refine ⟨_, i1, i2, i3, fun x1 => ?_⟩
  rw [Qc4]
  simp only [Qs8, c0, c1, Bool.and_self, cond_true, Qc5, Int.toNat_natCast, e0, e9]
  refine (p4 _).trans ?_
  have d0 : decide (((0 : Nat) : Int) > 0) = false := by decide
  simp only [d0, show (false == true) = false from rfl, cond_false]
  exact ins x1
 ·have hjl : j - 1 < out.length := by omega
  have e1 : (out.take j).getLast? = some out[j - 1] := by
   rw [List.getLast?_eq_getElem?, List.length_take, Nat.min_eq_left p1, List.getElem?_take_of_lt (by omega), List.getElem?_eq_getElem hjl]
  have d0 : decide ((j : Int) > 0) = true := dT (by omega)
  have w1 : IntKind.i64.wrap ((j : Int) - 1) = ((j - 1 : Nat) : Int) := wj (by omega)
  have d1 : decide ((0 : Int) ≤ ((j - 1 : Nat) : Int)) = true := dT (by omega)
  have d2 : decide (((j - 1 : Nat) : Int) < (out.length : Int)) = true := dT (by omega)
  have st : ∀ x1 : List BA → Oq R, f76_1 k x1 P (n : Int) out = bif (out[j - 1].toList == nm.toList) then x1 out else x1 (out.take j ++ nm :: out.drop j) := fun x1 => by
   rw [Qc4]
   simp only [Qs8, c0, c1, Bool.and_self, cond_true, Qc5, Int.toNat_natCast, e0, e9]
   refine (p4 _).trans ?_
   simp only [d0, w1, d1, d2, beq_self_eq_true, Bool.and_self, cond_true, Int.toNat_natCast, Q3f hjl]
   cases out[j - 1].toList == nm.toList with
   | true => rfl
   | false => exact ins x1
  cases hc : out[j - 1].toList == nm.toList with
  | true =>
    have e := Q2d.1 hc
    refine ⟨out, hso, fun z => ⟨.inl, fun h => ?_⟩, by omega, fun x1 => by rw [st, hc]; rfl⟩
    rcases h with h | h
    ·exact h
    ·rw [h, ← hnm, ← e]; exact List.getElem_mem hjl
  | false =>
    obtain ⟨i1, i2, i3⟩ := insP fun z hz e => by
     rw [e1] at hz
     cases hz
     rw [e] at hc
     simp at hc
    exact ⟨_, i1, i2, i3, fun x1 => by rw [st, hc]; rfl⟩
theorem Qfj (k : Nat) (hk : 5000 < k) (x0 : List BA → Oq R) (P : List Fnd) (hP : P.length ≤ 4096) : ∀ (m f n : Nat) (out : List BA), n + m = P.length → m < f → out.length ≤ n → out.Pairwise ltN → (∀ z, z ∈ out ↔ ∃ y ∈ P.take n, Fnd.name y = z) →
  Qaj k x0 P f (n : Int) out = x0 (namesF P)
 | m, 0, n, _, _, h, _, _, _ => absurd h (Nat.not_lt_zero _)
 | 0, f + 1, n, out, hn, _, _, hso, hm => by
   have d0 : decide ((n : Int) < (P.length : Int)) = false := dF (by omega)
   simp only [Qaj, Q12q, d0, cond_false]
   rw [Q6q Q141 Qlt hso (Q8g P) fun z => by
    rw [hm z, Qtp, List.take_of_length_le (by omega)]]
 | m + 1, f + 1, n, out, hn, hf, ho, hso, hm => by
   have d0 : decide ((n : Int) < (P.length : Int)) = true := dT (by omega)
   have w1 : IntKind.i64.wrap ((n : Int) + 1) = ((n + 1 : Nat) : Int) := wj (by omega)
   obtain ⟨out', o1, o2, o3, o4⟩ := Q144 (R := R) k hk P hP n (by omega) out ho hso
   simp only [Qaj, Q12q, d0, cond_true, w1, o4]
   refine Qfj k hk x0 P hP m f (n + 1) out' (by omega) (by omega) o3 o1 fun z => ?_
   rw [o2, hm, List.take_succ_eq_append_getElem (show n < P.length by omega)]
   constructor
   ·rintro (⟨y, hy, e⟩ | e)
    ·exact ⟨y, List.mem_append_left _ hy, e⟩
    ·exact ⟨_, List.mem_append_right _ (List.mem_singleton.2 rfl), e.symm⟩
   ·rintro ⟨y, hy, e⟩
    rcases List.mem_append.1 hy with hy | hy
    ·exact .inl ⟨y, hy, e⟩
    ·rw [List.mem_singleton] at hy; subst hy; exact .inr e.symm
theorem Q1ga {k : Nat} (hk : 6000 < k) {P : List Fnd} (hP : P.length ≤ 4096) (K : List BA → Oq R) : f76 k P K = K (namesF P) := by
 rw [Q12s]
 obtain ⟨k, rfl⟩ := Q9 (show 0 < k by omega)
 simp only [f76d, Ql9]
 exact Qfj k (by omega) (fun y => K y) P hP P.length k 0 [] (by omega) (by omega) (Nat.le_refl _) List.Pairwise.nil fun z => by simp
theorem Qkg (k : Nat) (x0 : List Fnd → Oq R) (P : List Fnd) (hP : PgsOk P) (nm : BA) (g : Int) : ∀ (m f n : Nat) (out : List Fnd), n + m = P.length → m < f → out.length ≤ n →
  Q2m k x0 P nm g f (n : Int) out = x0 (out ++ grp (P.drop n) nm g)
 | m, 0, n, _, _, h, _ => absurd h (Nat.not_lt_zero _)
 | 0, f + 1, n, out, hn, _, _ => by
   have d0 : decide ((n : Int) < (P.length : Int)) = false := dF (by omega)
   simp only [Q2m, Qnr, d0, cond_false]
   rw [List.drop_of_length_le (by omega)]
   simp [grp]
 | m + 1, f + 1, n, out, hn, hf, ho => by
   have hl := hP.len
   have hnl : n < P.length := by omega
   have hx := hP.ok P[n] (List.getElem_mem hnl)
   have d0 : decide ((n : Int) < (P.length : Int)) = true := dT (by omega)
   have d1 : decide ((0 : Int) ≤ (n : Int)) = true := by simp
   have w1 : IntKind.i64.wrap ((n : Int) + 1) = ((n + 1 : Nat) : Int) := wj (by omega)
   have d2 : ∀ y : Fnd, decide (out.length + ([y] : List Fnd).length ≤ LIM 80) = true := fun y => by rw [LIM80, decide_eq_true_eq]; simp; omega
   have d3 := d2 P[n]
   have eb : IntKind.i64.wrap (P[n].2.1.1 - P[n].2.1.2.2.2.1) = Fnd.base P[n] := Qbe hx
   have ih := fun out ho => Qkg k x0 P hP nm g m f (n + 1) out (by omega) (by omega) ho
   rw [List.drop_eq_getElem_cons hnl]
   unfold grp at ih ⊢
   rw [List.filter_cons]
   simp only [Q2m, Qnr, d0, d1, w1, Bool.and_self, cond_true, Int.toNat_natCast, Q3g hnl, Q9r, Qbq, eb, beq_true]
   show (bif (Fnd.name P[n]).toList == nm.toList then (bif Fnd.base P[n] == g then (bif decide (out.length + ([P[n]] : List Fnd).length ≤ LIM 80) then Q2m k x0 P nm g f ((n + 1 : Nat) : Int) (out ++ [P[n]]) else none) else Q2m k x0 P nm g f ((n + 1 : Nat) : Int) out) else (bif false then (bif decide (out.length + ([P[n]] : List Fnd).length ≤ LIM 80) then Q2m k x0 P nm g f ((n + 1 : Nat) : Int) (out ++ [P[n]]) else none) else Q2m k x0 P nm g f ((n + 1 : Nat) : Int) out)) = _
   rw [d3, ih out (by omega), ih (out ++ [P[n]]) (by simp; omega)]
   cases (Fnd.name P[n]).toList == nm.toList <;> cases Fnd.base P[n] == g <;> simp
theorem Q10e {k : Nat} (hk : 5000 < k) {P : List Fnd} (hP : PgsOk P) (nm : BA) (g : Int) (K : List Fnd → Oq R) : f108 k P nm g K = K (grp P nm g) := by
 have hl := hP.len
 rw [Qr4]
 obtain ⟨k, rfl⟩ := Q9 (show 0 < k by omega)
 simp only [f108d, Qee]
 refine (Qkg k (fun y => K y) P hP nm g P.length k 0 [] (by omega) (by omega) (Nat.le_refl _)).trans ?_
 rw [List.drop_zero, List.nil_append]
def atK (K : Int → Bool → BA → Int → Bool → LI → Bool → Oq R) : Option Fnd → Oq R
 | none => K 0 false ⟨#[]⟩ 0 false [] false
 | some y => K y.gen y.gone y.name y.ix y.last y.raw true
theorem Qkh (k : Nat) (K : Int → Bool → BA → Int → Bool → LI → Bool → Oq R) (ps : List Fnd) (hl : ps.length ≤ 4096) (t : Int) (y1 y2 : Int) (t1 t2 : Bool) (nm : BA) : ∀ (m f n : Nat), n + m = ps.length → m < f →
  Q4w k K (K 0 false ⟨#[]⟩ 0 false [] false) ps t y1 t1 nm y2 t2 f (n : Int) = atK K ((ps.drop n).find? fun y => Fnd.ix y == t)
 | m, 0, n, _, h => absurd h (Nat.not_lt_zero _)
 | 0, f + 1, n, hn, _ => by
   have d0 : decide ((n : Int) < (ps.length : Int)) = false := dF (by omega)
   simp only [Q4w, Qnt, d0, cond_false]
   rw [List.drop_of_length_le (by omega)]
   rfl
 | m + 1, f + 1, n, hn, hf => by
   have hnl : n < ps.length := by omega
   have d0 : decide ((n : Int) < (ps.length : Int)) = true := dT (by omega)
   have d1 : decide ((0 : Int) ≤ (n : Int)) = true := by simp
   have w1 : IntKind.i64.wrap ((n : Int) + 1) = ((n + 1 : Nat) : Int) := wj (by omega)
   have ih := Qkh k K ps hl t y1 y2 t1 t2 nm m f (n + 1) (by omega) (by omega)
   rw [List.drop_eq_getElem_cons hnl, List.find?_cons]
   simp only [Q4w, Qnt, d0, d1, w1, Bool.and_self, cond_true, Int.toNat_natCast, Q3g hnl]
   have e : (ps[n].2.1.2.2.2.1 == t) = (Fnd.ix ps[n] == t) := rfl
   rw [e]
   cases Fnd.ix ps[n] == t with
   | true => rfl
   | false => exact ih
theorem Q10j {k : Nat} (hk : 5000 < k) {ps : List Fnd} (hl : ps.length ≤ 4096) (t : Int) (K : Int → Bool → BA → Int → Bool → LI → Bool → Oq R) : f110 k ps t K = atK K (ps.find? fun y => Fnd.ix y == t) := by
 rw [Qr6]
 obtain ⟨k, rfl⟩ := Q9 (show 0 < k by omega)
 simp only [f110d, Qeh]
 exact Qkh k K ps hl t 0 0 false false _ ps.length k 0 (by omega) (by omega)
def lastsN (l : List Fnd) : Nat := (l.filter Fnd.last).length
theorem Q7a : ∀ (l : List Fnd) (i : Nat) (n : Int) (e : Bool), (lastsF i n e l).1 = n + lastsN l
 | [], _, n, _ => by simp [lastsF, lastsN]
 | z :: l, i, n, e => by
   simp only [lastsF]
   unfold lastsN
   rw [List.filter_cons]
   cases hz : z.last with
   | true =>
     simp only [cond_true, if_true, List.length_cons]
     rw [Q7a]
     unfold lastsN
     omega
   | false =>
     simp only [cond_false, Bool.false_eq_true, if_false]
     rw [Q7a]
     rfl
def walk : Nat → List Fnd → Int
 | _, [] => 0
 | i, z :: l => bif z.ix == (i : Int) then (bif z.last then (i : Int) + 1 else walk (i + 1) l) else 0
abbrev AscIx (l : List Fnd) : Prop := l.Pairwise fun a b => Fnd.ix a < Fnd.ix b
theorem Qff : ∀ (l : List Fnd) (i : Nat) (n : Int) (e : Bool), lastsN l = 0 → (lastsF i n e l).2 = e
 | [], _, _, _, _ => rfl
 | z :: l, i, n, e, h => by
   unfold lastsN at h
   rw [List.filter_cons] at h
   cases hz : z.last with
   | true => rw [hz] at h; simp at h
   | false =>
     rw [hz] at h
     simp only [lastsF, hz, cond_false]
     exact Qff l (i + 1) n e h
theorem Qcl : ∀ (l : List Fnd) (i : Nat) (n : Int), AscIx l → (∀ z ∈ l, (i : Int) < z.ix) → (lastsF i n false l).2 = false
 | [], _, _, _, _ => rfl
 | z :: l, i, n, ha, hg => by
   have ha := List.pairwise_cons.1 ha
   have hz := hg z (List.mem_cons_self ..)
   have hl : ∀ y ∈ l, ((i + 1 : Nat) : Int) < y.ix := fun y hy => by have := ha.1 y hy; omega
   simp only [lastsF]
   cases z.last with
   | true =>
     simp only [cond_true]
     have e : (z.ix == (i : Int)) = false := by rw [beq_eq_false_iff_ne]; omega
     rw [e]
     exact Qcl l (i + 1) _ ha.2 hl
   | false =>
     simp only [cond_false]
     exact Qcl l (i + 1) _ ha.2 hl
theorem Qg8 : ∀ (l : List Fnd) (i : Nat), AscIx l → (∀ z ∈ l, (i : Int) ≤ z.ix) → lastsN l = 1 → ((lastsF i 0 false l).2 = true ↔ 0 < walk i l)
 | [], _, _, _, h => by simp [lastsN] at h
 | z :: l, i, ha, hg, h1 => by
   have ha' := List.pairwise_cons.1 ha
   have hz := hg z (List.mem_cons_self ..)
   simp only [lastsF, walk]
   unfold lastsN at h1
   rw [List.filter_cons] at h1
   by_cases he : z.ix = (i : Int)
   ·have e : (z.ix == (i : Int)) = true := by simpa using he
    rw [e]
    cases hl : z.last with
    | true =>
      rw [hl] at h1
      simp only [if_true, List.length_cons] at h1
      simp only [cond_true]
      rw [Qff l (i + 1) _ _ (by unfold lastsN; omega)]
      simp <;> omega
    | false =>
      rw [hl] at h1
      simp only [cond_true, cond_false]
      exact Qg8 l (i + 1) ha'.2 (fun y hy => by have := ha'.1 y hy; omega) h1
   ·have e : (z.ix == (i : Int)) = false := by simpa using he
    rw [e]
    have hgl : ∀ y ∈ l, ((i + 1 : Nat) : Int) < y.ix := fun y hy => by have := ha'.1 y hy; omega
    have := Qcl (z :: l) i 0 ha (fun y hy => by
     rcases List.mem_cons.1 hy with rfl | hy
     ·omega
     ·have := hgl y hy; omega)
    simp only [lastsF, e] at this
    simp only [cond_false]
    rw [this]
    simp
def headAt (i : Nat) : List Fnd → Option Fnd
 | [] => none
 | z :: _ => if z.ix = (i : Int) then some z else none
theorem Qc8 {pre l : List Fnd} {i : Nat} (h1 : ∀ z ∈ pre, z.ix < (i : Int)) (h2 : AscIx l) (h3 : ∀ z ∈ l, (i : Int) ≤ z.ix) : (pre ++ l).find? (fun y => Fnd.ix y == (i : Int)) = headAt i l := by
 have e1 : pre.find? (fun y => Fnd.ix y == (i : Int)) = none := List.find?_eq_none.2 fun z hz => by have := h1 z hz; simp; omega
 rw [List.find?_append, e1, Option.none_or]
 cases l with
 | nil => rfl
 | cons z l =>
   rw [List.find?_cons]
   have h2 := List.pairwise_cons.1 h2
   unfold headAt
   by_cases he : z.ix = (i : Int)
   ·have e : (z.ix == (i : Int)) = true := by simpa using he
    rw [e]; simp only [if_pos he]
   ·have e : (z.ix == (i : Int)) = false := by simpa using he
    rw [e]
    simp only [if_neg he]
    exact List.find?_eq_none.2 fun y hy => by
     have := h2.1 y hy
     have := h3 z (List.mem_cons_self ..)
     simp; omega
theorem Qle {l m : List Fnd} (hp : l.Perm m) (hn : (l.map Fnd.ix).Nodup) (t : Int) : l.find? (fun y => Fnd.ix y == t) = m.find? (fun y => Fnd.ix y == t) := by
 have inj : ∀ (l : List Fnd), (l.map Fnd.ix).Nodup → ∀ a ∈ l, ∀ c ∈ l, a.ix = c.ix → a = c := by
  intro l
  induction l with
  | nil => intro _ a ha; cases ha
  | cons z l ih =>
    intro hn a ha c hc e
    rw [List.map_cons, List.nodup_cons] at hn
    rcases List.mem_cons.1 ha with e1 | ha' <;> rcases List.mem_cons.1 hc with e2 | hc'
    ·rw [e1, e2]
    ·exact absurd (List.mem_map.2 ⟨c, hc', by rw [← e, e1]⟩) hn.1
    ·exact absurd (List.mem_map.2 ⟨a, ha', by rw [e, e2]⟩) hn.1
    ·exact ih hn.2 a ha' c hc' e
 cases h1 : l.find? (fun y => Fnd.ix y == t) with
 | none =>
   rw [List.find?_eq_none] at h1
   exact (List.find?_eq_none.2 fun z hz => h1 z (hp.mem_iff.2 hz)).symm
 | some a =>
   cases h2 : m.find? (fun y => Fnd.ix y == t) with
   | none =>
     rw [List.find?_eq_none] at h2
     have := h2 a (hp.mem_iff.1 (List.mem_of_find?_eq_some h1))
     have h1' := List.find?_some h1
     exact absurd h1' this
   | some c =>
     have a1 := List.find?_some h1
     have a2 := List.find?_some h2
     rw [beq_iff_eq] at a1 a2
     rw [inj l hn a (List.mem_of_find?_eq_some h1) c (hp.mem_iff.2 (List.mem_of_find?_eq_some h2)) (a1.trans a2.symm)]
structure VOk (ps : List Fnd) : Prop where
 keys : (ps.map keyIx).Nodup
 len : ps.length ≤ 4096
 lo : ∀ z ∈ ps, 0 ≤ z.ix
theorem Q1c9 {P : List Fnd} (hP : PgsOk P) (nm : BA) (g : Int) : VOk (grp P nm g) := ⟨Qit hP nm g, Qcd hP nm g, fun z hz => (hP.ok z (List.mem_filter.1 hz).1).ix.1⟩
theorem VOk.asc {ps : List Fnd} (h : VOk ps) : AscIx (skL keyIx ps) := by
 have h1 := Q5t keyIx ps
 have h2 : ((skL keyIx ps).map keyIx).Nodup := ((Qk keyIx ps).map keyIx).nodup_iff.2 h.keys
 unfold List.Nodup at h2
 rw [List.pairwise_map] at h2
 exact (h1.and h2).imp fun {a c} hh => by
  have hh1 : Fnd.ix a ≤ Fnd.ix c := hh.1
  have hh2 : Fnd.ix a ≠ Fnd.ix c := hh.2
  show Fnd.ix a < Fnd.ix c
  omega
theorem Qkd (k : Nat) (hk : 5000 < k) (K : Int → Oq R) {ps : List Fnd} (h : VOk ps) : ∀ (m f i : Nat) (pre l : List Fnd), l.length = m → m < f → skL keyIx ps = pre ++ l → (∀ z ∈ pre, z.ix < (i : Int)) → (∀ z ∈ l, (i : Int) ≤ z.ix) → i + l.length ≤ 4096 →
  Q4u k K ps f (i : Int) = K (walk i l)
 | m, 0, _, _, _, _, h, _, _, _, _ => absurd h (Nat.not_lt_zero _)
 | m, f + 1, i, pre, l, hl, hf, he, h1, h2, hi => by
   have hasc : AscIx l := (List.pairwise_append.1 (he ▸ h.asc)).2.1
   have hfind : ps.find? (fun y => Fnd.ix y == (i : Int)) = headAt i l := by
    rw [Qle (Qk keyIx ps).symm h.keys, he]
    exact Qc8 h1 hasc h2
   have w1 : IntKind.i64.wrap ((i : Int) + 1) = ((i + 1 : Nat) : Int) := wj (by omega)
   simp only [Q4u, Q10h, Q10j hk h.len, w1]
   cases l with
   | nil => rw [hfind]; rfl
   | cons z l =>
     rw [hfind]
     simp only [walk, headAt]
     by_cases hz : z.ix = (i : Int)
     ·have e : (z.ix == (i : Int)) = true := by simpa using hz
      simp only [if_pos hz, atK, Bool.not_true, cond_false, e, cond_true]
      cases hla : z.last with
      | true =>
        simp only [cond_true]
        congr 1
      | false =>
        simp only [cond_false]
        have hasc' := List.pairwise_cons.1 hasc
        simp only [List.length_cons] at hl hi
        exact Qkd k hk K h l.length f (i + 1) (pre ++ [z]) l rfl (by omega) (by rw [he]; simp) (fun y hy => by
         rcases List.mem_append.1 hy with hy | hy
         ·have := h1 y hy; omega
         ·rw [List.mem_singleton] at hy; rw [hy]; omega) (fun y hy => by have := hasc'.1 y hy; omega) (by omega)
     ·have e : (z.ix == (i : Int)) = false := by simpa using hz
      simp only [if_neg hz, atK, Bool.not_false, cond_true, e, cond_false]
theorem Q73 (k : Nat) (x0 : Int → Oq R) (ps : List Fnd) (hl : ps.length ≤ 4096) : ∀ (m f n : Nat) (c : Int), n + m = ps.length → m < f → 0 ≤ c → c ≤ n → Q4t k x0 ps f c (n : Int) = x0 (c + lastsN (ps.drop n))
 | m, 0, n, _, _, h, _, _ => absurd h (Nat.not_lt_zero _)
 | 0, f + 1, n, c, hn, _, _, _ => by
   have d0 : decide ((n : Int) < (ps.length : Int)) = false := dF (by omega)
   simp only [Q4t, Qns, d0, cond_false]
   rw [List.drop_of_length_le (by omega)]
   simp [lastsN]
 | m + 1, f + 1, n, c, hn, hf, h0, h1 => by
   have hnl : n < ps.length := by omega
   have d0 : decide ((n : Int) < (ps.length : Int)) = true := dT (by omega)
   have d1 : decide ((0 : Int) ≤ (n : Int)) = true := by simp
   have w1 : IntKind.i64.wrap ((n : Int) + 1) = ((n + 1 : Nat) : Int) := wj (by omega)
   have w2 : IntKind.i64.wrap (c + 1) = c + 1 := wi (by omega) (by omega)
   rw [List.drop_eq_getElem_cons hnl]
   unfold lastsN
   rw [List.filter_cons]
   simp only [Q4t, Qns, d0, d1, w1, Bool.and_self, cond_true, Int.toNat_natCast, Q3g hnl, Q9s]
   show Q4v k _ c (Fnd.last ps[n]) = _
   cases Fnd.last ps[n] with
   | true =>
     simp only [Q4v, cond_true, w2, if_true, List.length_cons]
     refine (Q73 k x0 ps hl m f (n + 1) (c + 1) (by omega) (by omega) (by omega) (by omega)).trans ?_
     unfold lastsN
     congr 1
     omega
   | false =>
     simp only [Q4v, cond_false, Bool.false_eq_true, if_false]
     exact Q73 k x0 ps hl m f (n + 1) c (by omega) (by omega) h0 (by omega)
theorem Q1bv {k : Nat} (hk : 6000 < k) {ps : List Fnd} (h : VOk ps) : ∃ v : Int, decide (v > 0) = wholeF (skL keyIx ps) ∧ ∀ K : Int → Oq R, f109 k ps K = K v := by
 have hl := h.len
 have hp := Qk keyIx ps
 have hN : lastsN (skL keyIx ps) = lastsN ps := (hp.filter _).length_eq
 have hc : (lastsF 0 0 false (skL keyIx ps)).1 = (lastsN ps : Int) := by rw [Q7a, hN]; omega
 have base : ∀ K : Int → Oq R, f109 k ps K = bif ((lastsN ps : Int) != 1) then K 0 else Q4u (k - 1) K ps (k - 1) 0 := fun K => by
  rw [Qr5]
  obtain ⟨k, rfl⟩ := Q9 (show 0 < k by omega)
  simp only [f109d, Qef, Qeg]
  refine (Q73 k _ ps hl ps.length k 0 0 (by omega) (by omega) (by omega) (by omega)).trans ?_
  rw [List.drop_zero, Int.zero_add]
  rfl
 unfold wholeF
 rw [hc]
 by_cases h1 : lastsN ps = 1
 ·refine ⟨walk 0 (skL keyIx ps), ?_, fun K => ?_⟩
  ·have := Qg8 (skL keyIx ps) 0 h.asc (fun z hz => by have := h.lo z (hp.mem_iff.1 hz); omega) (hN.trans h1)
   rw [h1]
   simp only [show (((1 : Nat) : Int) == 1) = true from rfl, Bool.and_true]
   rw [Bool.eq_iff_iff, decide_eq_true_eq, this]
  ·rw [base, h1]
   simp only [show (((1 : Nat) : Int) != 1) = false from rfl, cond_false]
   have hsl := Q35 keyIx ps
   exact Qkd (k - 1) (by omega) K h (skL keyIx ps).length (k - 1) 0 [] (skL keyIx ps) rfl (by omega) rfl (fun z hz => by cases hz) (fun z hz => by have := h.lo z (hp.mem_iff.1 hz); omega) (by omega)
 ·have e : ((lastsN ps : Int) != 1) = true := by simp; omega
  have e2 : ((lastsN ps : Int) == 1) = false := by simp; omega
  refine ⟨0, by rw [e2]; simp, fun K => ?_⟩
  rw [base, e]; rfl
theorem Q1c8 {ps : List Fnd} (h : VOk ps) : (match ps.find? (fun y => Fnd.ix y == 0) with | none => false | some y => Fnd.gone y) = Q3n (skL keyIx ps) := by
 have hp := Qk keyIx ps
 have := Qc8 (pre := []) (l := skL keyIx ps) (i := 0) (fun z hz => by cases hz) h.asc (fun z hz => by have := h.lo z (hp.mem_iff.1 hz); omega)
 rw [List.nil_append] at this
 rw [Qle hp.symm h.keys, show (fun y => Fnd.ix y == (0 : Int)) = fun y => Fnd.ix y == ((0 : Nat) : Int) from rfl, this]
 cases skL keyIx ps with
 | nil => rfl
 | cons z l =>
   simp only [Q3n, headAt]
   by_cases hz : Fnd.ix z = ((0 : Nat) : Int)
   ·have e : (Fnd.ix z == 0) = true := by simpa using hz
    rw [e]; simp only [if_pos hz, cond_true]
   ·have e : (Fnd.ix z == 0) = false := by simpa using hz
    rw [e]; simp only [if_neg hz, cond_false]
end
end Go.Proofs.YtecnlienmpdlaaaGreat.PM

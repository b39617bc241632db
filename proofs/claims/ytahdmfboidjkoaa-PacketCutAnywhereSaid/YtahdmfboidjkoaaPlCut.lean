/- The law of cuts: a stream fed in parts has the frames of the whole. -/
import Derived.Test.YtahdmfboidjkoaaPlStreams
set_option linter.unusedSimpArgs false
set_option linter.unusedVariables false
namespace Go.Proofs.Ytahdmfboidjkoaa.PM
open Go Go.Proofs.Ytahdmfboidjkoaa.Bt Go.Proofs.Ytahdmfboidjkoaa.Crc
variable {R : Type}

def stR (n : Nat) (r : List Int) : Bool := decide (r.length < n + 4) && mkd r
def stG (n : Nat) (r : List Int) : Bool := decide (n + 4 ≤ r.length) && (mkd r && ((readF ((r.take (n + 4)).drop 4) n).e == 0))
def frR (n : Nat) (r : List Int) : Fr := ((readF ((r.take (n + 4)).drop 4) n).a, (readF ((r.take (n + 4)).drop 4) n).b, (readF ((r.take (n + 4)).drop 4) n).c, (readF ((r.take (n + 4)).drop 4) n).d, (readF ((r.take (n + 4)).drop 4) n).l, ())
def sc (n : Nat) : Nat → List Int → List Int × List Fr
  | 0, r => (r, [])
  | f + 1, r => if r.length = 0 then (r, []) else if stR n r then (r, []) else if stG n r then ((sc n f (r.drop (n + 4))).1, frR n r :: (sc n f (r.drop (n + 4))).2) else sc n f (r.drop 1)
theorem sc_fuel (n : Nat) : ∀ (f g : Nat) (r : List Int), r.length < f → r.length < g → sc n f r = sc n g r
  | 0, g, r, h, _ => absurd h (Nat.not_lt_zero _)
  | f + 1, 0, r, _, h => absurd h (Nat.not_lt_zero _)
  | f + 1, g + 1, r, h, h' => by
    simp only [sc]
    split
    · rfl
    · rename_i hr
      have d1 : (r.drop 1).length < r.length := by rw [List.length_drop]; omega
      have d2 : (r.drop (n + 4)).length < r.length := by rw [List.length_drop]; omega
      rw [sc_fuel n f g (r.drop (n + 4)) (by omega) (by omega), sc_fuel n f g (r.drop 1) (by omega) (by omega)]
def scF (n : Nat) (r : List Int) : List Int × List Fr := sc n (r.length + 1) r
theorem scF_eq (n : Nat) (r : List Int) : scF n r = if r.length = 0 then (r, []) else if stR n r then (r, []) else if stG n r then ((scF n (r.drop (n + 4))).1, frR n r :: (scF n (r.drop (n + 4))).2) else scF n (r.drop 1) := by
  unfold scF
  rw [sc]
  split
  · rfl
  · rename_i hr
    have d1 : (r.drop 1).length < r.length := by rw [List.length_drop]; omega
    have d2 : (r.drop (n + 4)).length < r.length := by rw [List.length_drop]; omega
    rw [sc_fuel n r.length ((r.drop (n + 4)).length + 1) _ (by omega) (by omega), sc_fuel n r.length ((r.drop 1).length + 1) _ (by omega) (by omega)]
theorem scan_sc (l : List Int) (n : Nat) : ∀ (m i : Nat) (fr : List Fr) (pl : List Int), l.drop (scan l n m i fr pl).1 = (sc n m (l.drop i)).1 ∧ (scan l n m i fr pl).2.1 = fr ++ (sc n m (l.drop i)).2
  | 0, i, fr, pl => by simp [scan, sc]
  | m + 1, i, fr, pl => by
    have e1 : stS l n i = stR n (l.drop i) := rfl
    have e2 : stF l n i = stG n (l.drop i) := rfl
    have e3 : frAt l n i = frR n (l.drop i) := rfl
    simp only [scan, sc, e1, e2, e3]
    by_cases h : i < l.length
    · have h' : ¬ (l.drop i).length = 0 := by rw [List.length_drop]; omega
      simp only [h, h', if_true, if_false]
      split
      · simp
      · split
        · have ih := scan_sc l n m (i + (n + 4)) (fr ++ [frR n (l.drop i)]) (pl ++ [(i : Int)])
          rw [List.drop_drop]
          refine ⟨ih.1, ?_⟩
          rw [ih.2]; simp
        · have ih := scan_sc l n m (i + 1) fr pl
          rw [List.drop_drop]
          exact ih
    · have h' : (l.drop i).length = 0 := by rw [List.length_drop]; omega
      simp only [h, h', if_true, if_false]
      simp
theorem mkd_app {r x : List Int} (h : 4 ≤ r.length) : mkd (r ++ x) = mkd r := by
  unfold mkd
  have a1 : min 4 (r ++ x).length = 4 := by rw [List.length_append]; omega
  have a2 : min 4 r.length = 4 := by omega
  rw [a1, a2, List.take_append_of_le_length h]
theorem mkd_not {r x : List Int} (h : mkd r = false) : mkd (r ++ x) = false := by
  unfold mkd at h ⊢
  rw [decide_eq_false_iff_not] at h ⊢
  intro he
  apply h
  have := congrArg (List.take (min 4 r.length)) he
  have a1 : min (min 4 r.length) (min 4 (r ++ x).length) = min 4 r.length := by rw [List.length_append]; omega
  rw [List.take_take, List.take_take, a1, List.take_append_of_le_length (by omega)] at this
  exact this
theorem scF_app (n : Nat) : ∀ (f : Nat) (r x : List Int), r.length < f → scF n (r ++ x) = ((scF n ((scF n r).1 ++ x)).1, (scF n r).2 ++ (scF n ((scF n r).1 ++ x)).2)
  | 0, r, x, h => absurd h (Nat.not_lt_zero _)
  | f + 1, r, x, h => by
    rw [scF_eq n r]
    by_cases h0 : r.length = 0
    · simp only [h0, if_true]; simp
    · by_cases h1 : stR n r = true
      · simp only [h0, h1, if_false, if_true]; simp
      · have h1' : stR n r = false := by simpa using h1
        have hap : (r ++ x).length = r.length + x.length := List.length_append
        have hap0 : ¬ (r ++ x).length = 0 := by omega
        by_cases hl : n + 4 ≤ r.length
        · have b1 : stR n (r ++ x) = false := by unfold stR; rw [hap]; simp; omega
          have b2 : stG n (r ++ x) = stG n r := by
            unfold stG
            rw [mkd_app (show 4 ≤ r.length by omega), List.take_append_of_le_length hl, hap]
            have c1 : decide (n + 4 ≤ r.length + x.length) = true := by simp only [decide_eq_true_eq]; omega
            have c2 : decide (n + 4 ≤ r.length) = true := by simp only [decide_eq_true_eq]; omega
            rw [c1, c2]
          have b3 : frR n (r ++ x) = frR n r := by unfold frR; rw [List.take_append_of_le_length hl]
          rw [scF_eq n (r ++ x)]
          simp only [h0, h1', hap0, b1, b2, b3, if_false, Bool.false_eq_true]
          have d2 : (r.drop (n + 4)).length < r.length := by rw [List.length_drop]; omega
          have d1 : (r.drop 1).length < r.length := by rw [List.length_drop]; omega
          split
          · rw [List.drop_append_of_le_length hl, scF_app n f (r.drop (n + 4)) x (by omega)]
            simp
          · rw [List.drop_append_of_le_length (by omega), scF_app n f (r.drop 1) x (by omega)]
        · have hm : mkd r = false := by
            unfold stR at h1'
            have : decide (r.length < n + 4) = true := by simp only [decide_eq_true_eq]; omega
            rw [this, Bool.true_and] at h1'
            exact h1'
          have hm' := mkd_not (x := x) hm
          have b1 : stR n (r ++ x) = false := by unfold stR; rw [hm']; simp
          have b2 : stG n (r ++ x) = false := by unfold stG; rw [hm']; simp
          have b3 : stG n r = false := by unfold stG; rw [hm]; simp
          rw [scF_eq n (r ++ x)]
          simp only [h0, h1', hap0, b1, b2, b3, if_false, Bool.false_eq_true]
          have d1 : (r.drop 1).length < r.length := by rw [List.length_drop]; omega
          rw [List.drop_append_of_le_length (by omega), scF_app n f (r.drop 1) x (by omega)]
theorem scF_ok (n : Nat) : ∀ (f : Nat) (r : List Int), r.length < f → B r → B (scF n r).1 ∧ (scF n r).1.length ≤ r.length ∧ (scF n r).1.length < n + 4 ∧ (scF n r).2.length ≤ r.length
  | 0, r, h, _ => absurd h (Nat.not_lt_zero _)
  | f + 1, r, h, hB => by
    rw [scF_eq n r]
    split
    · rename_i h0; exact ⟨hB, Nat.le_refl _, by show r.length < n + 4; omega, by simp⟩
    · rename_i h0
      have d1 : (r.drop 1).length < r.length := by rw [List.length_drop]; omega
      have d2 : (r.drop (n + 4)).length < r.length := by rw [List.length_drop]; omega
      split
      · rename_i h1
        unfold stR at h1
        simp only [Bool.and_eq_true, decide_eq_true_eq] at h1
        exact ⟨hB, Nat.le_refl _, h1.1, by simp⟩
      · split
        · obtain ⟨q1, q2, q3, q4⟩ := scF_ok n f (r.drop (n + 4)) (by omega) (hB.drop _)
          exact ⟨q1, by show (scF n (r.drop (n + 4))).1.length ≤ _; omega, q3, by simp only [List.length_cons]; omega⟩
        · obtain ⟨q1, q2, q3, q4⟩ := scF_ok n f (r.drop 1) (by omega) (hB.drop _)
          exact ⟨q1, by omega, q3, by omega⟩
theorem feed_scF {h b : List Int} {n : Nat} (hn : 24 ≤ n ∧ n ≤ 1000) (h1 : h.length + b.length ≤ 200000) (h2 : h.length < n + 4) : feed h b n = ⟨0, (scF n (h ++ b)).2, (scF n (h ++ b)).1⟩ := by
  have e : feedE h.length b.length n = 0 := by
    unfold feedE
    rw [if_neg (by omega), if_neg (by omega), if_neg (by omega)]
  unfold feed
  rw [if_neg (by simpa using e)]
  have := scan_sc (h ++ b) n ((h ++ b).length + 1) 0 [] []
  simp only [Int.toNat_natCast]
  rw [this.1, this.2]
  rfl
theorem f42_eq (k : Nat) (hk : 0 < k) (a b : Int) (h0 : 0 < b) (h1 : b < 4611686018427387904) (K : Int → Option R) : f42 k a b K = K (a % b) := by
  rw [f42_def]
  obtain ⟨k, rfl⟩ : ∃ j, k = j + 1 := ⟨k - 1, by omega⟩
  have e : (!(b == 0)) = true := by simp; omega
  simp only [f42d, e, cond_true, f42_1000003_def, f42_1000003d]
  have t := Int.emod_emod_of_dvd a (Int.dvd_refl b)
  have m0 := Int.emod_nonneg a (show b ≠ 0 by omega)
  have m1 := Int.emod_lt_of_pos a h0
  have lt := Int.tmod_lt_of_pos a h0
  have tm : Int.tmod a b = a % b ∨ (Int.tmod a b < 0 ∧ Int.tmod a b + b = a % b) := by
    have := Int.tmod_eq_emod (a := a) (b := b)
    split at this
    · left; omega
    · have hn : (b.natAbs : Int) = b := by omega
      by_cases hz : a % b = 0
      · exfalso; rename_i hh; exact hh (Or.inr (Int.dvd_of_emod_eq_zero hz))
      · right; omega
  rcases tm with tm | ⟨tm, tm'⟩
  · have e2 : decide (Int.tmod a b < 0) = false := by rw [tm]; simp only [decide_eq_false_iff_not]; omega
    rw [e2, cond_false, tm]
  · have e2 : decide (Int.tmod a b < 0) = true := by simp only [decide_eq_true_eq]; exact tm
    rw [e2, cond_true, tm', wraps_i64 _ (by omega) (by omega)]
theorem cut_loop (k : Nat) (K : Bool → Option R) (x0 : List Fr → Option R) (b : List Int) (hB : B b) (hb : b.length ≤ 200000) (n : Nat) (hn : 24 ≤ n ∧ n ≤ 1000) (want : List Fr) (cs : List Int) (hc : cs.length < 4611686018427387904)
    (hlast : ∀ h : 0 < cs.length, cs[cs.length - 1]'(by omega) = (b.length : Int)) (hk : b.length + 2100 < k) : ∀ (d f i p : Nat), i + d = cs.length → d < f → p ≤ b.length → (d = 0 → p = b.length) →
    f10_0d k K x0 b (n : Int) (cs.length : Int) want cs f (p : Int) (i : Int) (scF n (b.take p)).2 (scF n (b.take p)).1 = x0 (scF n b).2 := by
  intro d
  induction d with
  | zero =>
    intro f i p hi hf hp hq
    obtain ⟨f, rfl⟩ : ∃ j, f = j + 1 := ⟨f - 1, by omega⟩
    have h1 : decide ((i : Int) < (cs.length : Int)) = false := by simp only [decide_eq_false_iff_not]; omega
    simp only [f10_0d, f10_0b, h1, cond_false]
    rw [hq rfl, List.take_length]
  | succ d ih =>
    intro f i p hi hf hp hq
    obtain ⟨f, rfl⟩ : ∃ j, f = j + 1 := ⟨f - 1, by omega⟩
    have h1 : decide ((i : Int) < (cs.length : Int)) = true := by simp only [decide_eq_true_eq]; omega
    have h0 : decide ((0 : Int) ≤ (i : Int)) = true := by simp
    have hli : i < cs.length := by omega
    have w2 : IntKind.i64.wrap ((i : Int) + 1) = ((i + 1 : Nat) : Int) := by rw [wraps_i64 _ (by omega) (by omega)]; omega
    have hg : cs.getD i 0 = cs[i] := by rw [List.getD_eq_getElem?_getD, List.getElem?_eq_getElem hli]; rfl
    have wa : IntKind.i64.wrap ((b.length : Int) - (p : Int)) = (b.length : Int) - (p : Int) := wraps_i64 _ (by omega) (by omega)
    have wb : IntKind.i64.wrap ((b.length : Int) - (p : Int) + 1) = (b.length : Int) - (p : Int) + 1 := wraps_i64 _ (by omega) (by omega)
    have hto : ∃ q : Nat, p ≤ q ∧ q ≤ b.length ∧ (d = 0 → q = b.length) ∧ ∀ xN : Int → Option R, f10_1000012 k xN b (n : Int) (p : Int) cs[i] (b.length : Int) (cs.length : Int) (i : Int) (cs[i] != (b.length : Int)) want (scF n (b.take p)).2 (scF n (b.take p)).1 cs = xN (q : Int) := by
      by_cases e : cs[i] = (b.length : Int)
      · have e' : (cs[i] != (b.length : Int)) = false := by simp [e]
        exact ⟨b.length, hp, Nat.le_refl _, fun _ => rfl, fun xN => by simp only [f10_1000012_def, f10_1000012d, e', cond_false]⟩
      · have e' : (cs[i] != (b.length : Int)) = true := by simp [e]
        have m0 := Int.emod_nonneg cs[i] (show (b.length : Int) - (p : Int) + 1 ≠ 0 by omega)
        have m1 := Int.emod_lt_of_pos cs[i] (show 0 < (b.length : Int) - (p : Int) + 1 by omega)
        refine ⟨p + (cs[i] % ((b.length : Int) - (p : Int) + 1)).toNat, by omega, by omega, ?_, fun xN => ?_⟩
        · intro hd
          exact absurd (by have := hlast (by omega); simpa [show cs.length - 1 = i by omega] using this) e
        · simp only [f10_1000012_def, f10_1000012d, e', cond_true, wa, wb]
          rw [f42_eq k (by omega) _ _ (by omega) (by omega)]
          rw [wraps_i64 _ (by omega) (by omega)]
          congr 1
          omega
    obtain ⟨q, q1, q2, q3, q4⟩ := hto
    obtain ⟨s1, s2, s3, s4⟩ := scF_ok n ((b.take p).length + 1) (b.take p) (by omega) (hB.take _)
    have hlp : (b.take p).length = p := by rw [List.length_take]; omega
    have hx : ((b.take q).drop p).length = q - p := by rw [List.length_drop, List.length_take]; omega
    have hsp : b.take p ++ (b.take q).drop p = b.take q := by
      have := List.take_append_drop p (b.take q)
      rw [List.take_take, Nat.min_eq_left q1] at this
      exact this
    have happ := scF_app n ((b.take p).length + 1) (b.take p) ((b.take q).drop p) (by omega)
    rw [hsp] at happ
    obtain ⟨u1, u2, u3, u4⟩ := scF_ok n ((b.take q).length + 1) (b.take q) (by omega) (hB.take _)
    have hlq : (b.take q).length = q := by rw [List.length_take]; omega
    have hfd := feed_scF (h := (scF n (b.take p)).1) (b := (b.take q).drop p) hn (by omega) s3
    have c1 : decide ((0 : Int) ≤ (p : Int)) = true := by simp
    have c2 : decide ((p : Int) ≤ (q : Int)) = true := by simp only [decide_eq_true_eq]; omega
    have c3 : decide ((q : Int) ≤ (b.length : Int)) = true := by simp only [decide_eq_true_eq]; omega
    have w4 : IntKind.i64.wrap ((n : Int) + 4) = (n : Int) + 4 := wraps_i64 _ (by omega) (by omega)
    have ih' := ih f (i + 1) q (by omega) (by omega) q2 q3
    rw [happ] at ih' u3 u4
    simp only at ih' u3 u4
    have c4 : decide (((scF n ((scF n (b.take p)).1 ++ (b.take q).drop p)).1.length : Int) ≥ (n : Int) + 4) = false := by simp only [decide_eq_false_iff_not]; omega
    have L := lim56
    have c5 : decide ((scF n (b.take p)).2.length + (scF n ((scF n (b.take p)).1 ++ (b.take q).drop p)).2.length ≤ LIM 56) = true := by
      simp only [decide_eq_true_eq]; rw [List.length_append] at u4; omega
    simp only [f10_0d, f10_0b, h1, h0, cond_true, Bool.and_self, Int.toNat_natCast, hg, q4, c1, c2, c3, w2]
    rw [f43_eq s1 ((hB.take _).drop _) (by omega) (by omega) (n : Int) k (by omega), hfd]
    simp only [bne_self_eq_false, beq_self_eq_true, cond_true, w4, c4, c5, cond_false]
    exact ih'
theorem f10_eq {b : List Int} (hB : B b) (hl : b.length ≤ 140737488351232) (n : Int) (cuts : List Int) (hc : cuts.length * 8 ≤ 140737488351232) (k : Nat) (hk : b.length + cuts.length + 210000 < k) (K : Bool → Option R) : f10 k b n cuts K = K true := by
  rw [f10_def]
  obtain ⟨k, rfl⟩ : ∃ j, k = j + 1 := ⟨k - 1, by omega⟩
  simp only [f10d, f46_eq hB hl n k (show b.length + 1300 < k by omega)]
  by_cases he : fndE b n = 0
  · have hn : 24 ≤ n ∧ n ≤ 1000 := by
      unfold fndE at he
      by_cases q : 24 ≤ n ∧ n ≤ 1000
      · exact q
      · rw [if_pos q] at he; cases he
    have hb : b.length ≤ 200000 := by
      unfold fndE at he
      rw [if_neg (by simpa using hn)] at he
      split at he
      · cases he
      · omega
    obtain ⟨m, rfl⟩ : ∃ m : Nat, n = (m : Int) := ⟨n.toNat, by omega⟩
    have L8 : LIM 8 = 17592186044416 := by simp [LIM]
    have f47e : ∀ K : List Int → Option R, f47 k cuts K = K cuts := fun K => by
      rw [f47_def]
      obtain ⟨k, rfl⟩ : ∃ j, k = j + 1 := ⟨k - 1, by omega⟩
      have : decide (cuts.length ≤ LIM 8) = true := by rw [L8]; simp only [decide_eq_true_eq]; omega
      simp only [f47d, this, cond_true]
    have c1 : decide (cuts.length + ([(b.length : Int)] : List Int).length ≤ LIM 8) = true := by rw [L8]; simp only [decide_eq_true_eq, List.length_singleton]; omega
    have hF : fndF b (m : Int) = (scF m b).2 := by
      unfold fndF
      rw [if_pos he]
      have := (scan_sc b m (b.length + 1) 0 [] []).2
      simp only [Int.toNat_natCast]
      rw [this]; rfl
    obtain ⟨o1, o2, o3⟩ := fnd_ok b (m : Int)
    simp only [he, bne_self_eq_false, cond_false, f47e, c1, cond_true, f10_0_def]
    have h0 : (scF m (b.take 0)).2 = [] ∧ (scF m (b.take 0)).1 = [] := by rw [scF_eq]; simp
    have lp := cut_loop (R := R) k K (fun y0_0_1 => (f45 k y0_0_1 (fndF b (m : Int)) (fun r38914_0 => (bif (r38914_0 == true) then (f21 k (fun r38916_0 => (K r38916_0))) else (K false))))) b hB hb m (by omega) (fndF b (m : Int)) (cuts ++ [(b.length : Int)]) (by simp; omega)
      (fun h => by simp) (by omega) (cuts ++ [(b.length : Int)]).length k 0 0 (by omega) (by simp; omega) (by omega) (fun h => by simp at h)
    rw [h0.1, h0.2] at lp
    refine lp.trans ?_
    rw [← hF, f45_eq (fndF b (m : Int)) (by omega) k (by omega) (fun y hy => ⟨by have := o3 y hy; omega, by have := o3 y hy; omega⟩)]
    simp only [beq_self_eq_true, cond_true, f21_eq k (by omega)]
  · have e1 : (fndE b n != 0) = true := by simp [he]
    have e2 : fndF b n = [] := by unfold fndF; rw [if_neg he]
    simp only [e1, e2, cond_true, List.length_nil]
    simp [f21_eq k (show 11 < k by omega)]
end Go.Proofs.Ytahdmfboidjkoaa.PM

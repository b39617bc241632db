/- Finding frames in a stream: the code and the reference answer alike. -/
import Derived.Test.YtahdmfboidjkoaaPlFrames
set_option linter.unusedSimpArgs false
set_option linter.unusedVariables false
namespace Go.Proofs.Ytahdmfboidjkoaa.PM
open Go Go.Proofs.Ytahdmfboidjkoaa.Bt Go.Proofs.Ytahdmfboidjkoaa.Crc
variable {R : Type}

abbrev Fr := Int × (Int × (Int × (Int × (List Int × Unit))))
def mk4 : List Int := [26, 207, 252, 29]
theorem lim56 : 1000000 ≤ LIM 56 := by decide
theorem lim8 : 1000000 ≤ LIM 8 := by decide
theorem strOf_inj {l m : List Int} (hl : B l) (hm : B m) : ((strOf l).toList == (strOf m).toList) = decide (l = m) := by
  have inj : ∀ {l m : List Int}, B l → B m → l.map (fun n => UInt8.ofNat n.toNat) = m.map (fun n => UInt8.ofNat n.toNat) → l = m := by
    intro l
    induction l with
    | nil => intro m _ _ h; cases m with
      | nil => rfl
      | cons => cases h
    | cons x l ih =>
      intro m hl hm h
      cases m with
      | nil => cases h
      | cons y m =>
        simp only [List.map_cons, List.cons.injEq] at h
        have hx := hl x List.mem_cons_self
        have hy := hm y List.mem_cons_self
        have h1 := congrArg UInt8.toNat h.1
        simp only [UInt8.toNat_ofNat'] at h1
        have : x = y := by omega
        rw [this, ih (fun z hz => hl z (List.mem_cons_of_mem _ hz)) (fun z hz => hm z (List.mem_cons_of_mem _ hz)) h.2]
  rw [ByteArray.toList_eq, ByteArray.toList_eq]
  by_cases h : l = m
  · rw [h]; simp
  · simp only [h, decide_false]
    refine beq_eq_false_iff_ne.2 fun e => h (inj hl hm ?_)
    simpa [strOf] using e
theorem mk4_B : B mk4 := B.cons (by decide) (by decide) (B.cons (by decide) (by decide) (B.cons (by decide) (by decide) (B.cons (by decide) (by decide) B.nil)))
theorem mk4_str : (⟨#[26, 207, 252, 29]⟩ : ByteArray) = strOf mk4 := rfl

/-- Do bytes begin with the mark, or with its beginning? -/
def mkd (r : List Int) : Bool := decide (r.take (min 4 r.length) = mk4.take (min 4 r.length))
theorem f79_eq (k : Nat) (hk : 0 < k) (K : List Int → Option R) : f79 k K = K mk4 := by
  rw [f79_def]
  obtain ⟨k, rfl⟩ : ∃ j, k = j + 1 := ⟨k - 1, by omega⟩
  rfl
theorem f97_eq (r : List Int) (hr : r.length < 4611686018427387904) (k : Nat) (hk : 8 < k) (K : Bool → Option R) : f97 k r K = K (mkd r) := by
  rw [f97_def]
  obtain ⟨k, rfl⟩ : ∃ j, k = j + 1 := ⟨k - 1, by omega⟩
  have e : (if ((mk4.length : Nat) : Int) < (r.length : Int) then ((mk4.length : Nat) : Int) else (r.length : Int)) = ((min 4 r.length : Nat) : Int) := by
    have : mk4.length = 4 := rfl
    rw [this]
    split
    · have : min 4 r.length = 4 := by omega
      rw [this]
    · have : min 4 r.length = r.length := by omega
      rw [this]
  simp only [f97d, f79_eq k (show 0 < k by omega), e]
  have c1 : decide ((0 : Int) ≤ ((min 4 r.length : Nat) : Int)) = true := by simp only [decide_eq_true_eq]; omega
  have c2 : decide (((min 4 r.length : Nat) : Int) ≤ (r.length : Int)) = true := by simp only [decide_eq_true_eq]; omega
  have c3 : decide (((min 4 r.length : Nat) : Int) ≤ ((mk4.length : Nat) : Int)) = true := by
    have : mk4.length = 4 := rfl
    rw [this]; simp only [decide_eq_true_eq]; omega
  simp only [c1, c2, c3, Bool.and_self, cond_true, Int.toNat_natCast, List.drop_zero]
  rw [f32_eq _ _ (by rw [List.length_take]; omega) k (by rw [List.length_take]; omega)]
  rfl
theorem f105_eq {l m : List Int} (hl : B l) (hm : B m) (k : Nat) (hk : 0 < k) (K : Bool → Option R) : f105 k l m K = K (decide (l = m)) := by
  rw [f105_def]
  obtain ⟨k, rfl⟩ : ∃ j, k = j + 1 := ⟨k - 1, by omega⟩
  simp only [f105d, strOf_inj hl hm]
theorem f98_eq {l m : List Int} (hl : B l) (hm : B m) (k : Nat) (hk : 1 < k) (K : Bool → Option R) : f98 k l m K = K (decide (m.length ≤ l.length ∧ l.take m.length = m)) := by
  rw [f98_def]
  obtain ⟨k, rfl⟩ : ∃ j, k = j + 1 := ⟨k - 1, by omega⟩
  by_cases h : m.length ≤ l.length
  · have c1 : decide ((l.length : Int) ≥ (m.length : Int)) = true := by simp only [decide_eq_true_eq]; omega
    have c2 : decide ((0 : Int) ≤ (m.length : Int)) = true := by simp
    have c3 : decide ((m.length : Int) ≤ (l.length : Int)) = true := by simp only [decide_eq_true_eq]; omega
    simp only [f98d, c1, c2, c3, beq_self_eq_true, Bool.and_self, cond_true, Int.toNat_natCast]
    rw [f105_eq (hl.take _) hm k (by omega)]
    simp [h]
  · have c1 : decide ((l.length : Int) ≥ (m.length : Int)) = false := by simp only [decide_eq_false_iff_not]; omega
    simp only [f98d, c1]
    simp [h]

/-- Does it hang in the air whether a frame begins? -/
def stS (l : List Int) (n i : Nat) : Bool := decide ((l.drop i).length < n + 4) && mkd (l.drop i)
def rdAt (l : List Int) (n i : Nat) : Rf := readF (((l.drop i).take (n + 4)).drop 4) n
/-- Does a frame begin? -/
def stF (l : List Int) (n i : Nat) : Bool := decide (n + 4 ≤ (l.drop i).length) && (mkd (l.drop i) && ((rdAt l n i).e == 0))
def frAt (l : List Int) (n i : Nat) : Fr := ((rdAt l n i).a, (rdAt l n i).b, (rdAt l n i).c, (rdAt l n i).d, (rdAt l n i).l, ())
def scan (l : List Int) (n : Nat) : Nat → Nat → List Fr → List Int → Nat × List Fr × List Int
  | 0, i, fr, pl => (i, fr, pl)
  | f + 1, i, fr, pl => if i < l.length then (if stS l n i then (i, fr, pl) else if stF l n i then scan l n f (i + (n + 4)) (fr ++ [frAt l n i]) (pl ++ [(i : Int)]) else scan l n f (i + 1) fr pl) else (i, fr, pl)

theorem f81_eq {r : List Int} (hr : B r) (hl : r.length ≤ 200000) (n : Nat) (hn : n ≤ 1000) (k : Nat) (hk : 2 < k) (K : Bool → Option R) : f81 k r (n : Int) K = K (decide (r.length < n + 4) && mkd r) := by
  rw [f81_def]
  obtain ⟨k, rfl⟩ : ∃ j, k = j + 1 := ⟨k - 1, by omega⟩
  have w : IntKind.i64.wrap ((n : Int) + 4) = ((n + 4 : Nat) : Int) := by rw [wraps_i64 _ (by omega) (by omega)]; omega
  simp only [f81d, w]
  by_cases h : r.length < n + 4
  · have c1 : decide ((r.length : Int) < ((n + 4 : Nat) : Int)) = true := by simp only [decide_eq_true_eq]; omega
    have c2 : decide (0 < ([26, 207, 252, 29] : List Int).length) = true := by decide
    rw [c1, c2]
    simp only [beq_self_eq_true, cond_true]
    rw [show ([26, 207, 252, 29] : List Int) = mk4 from rfl, f98_eq hr mk4_B k (by omega)]
    have h4 : mk4.length = 4 := rfl
    by_cases h2 : mk4.length ≤ r.length
    · have hm : min 4 r.length = 4 := by omega
      have ht : mk4.take 4 = mk4 := rfl
      by_cases h3 : r.take mk4.length = mk4
      · have : (decide (mk4.length ≤ r.length ∧ r.take mk4.length = mk4) == false) = false := by simp [h2, h3]
        rw [this, cond_false]
        unfold mkd
        rw [hm, ht]
        rw [h4] at h3
        simp [h, h3]
      · have : (decide (mk4.length ≤ r.length ∧ r.take mk4.length = mk4) == false) = true := by simp [h3]
        rw [this, cond_true, f98_eq mk4_B hr k (by omega)]
        unfold mkd
        rw [hm, ht]
        rw [h4] at h3
        have : ¬ (r.length ≤ mk4.length ∧ mk4.take r.length = r) := by
          rintro ⟨a, b⟩
          have hrl : r.length = 4 := by omega
          rw [hrl, ht] at b
          exact h3 (by rw [← b]; rfl)
        simp [h3, this]
    · have : (decide (mk4.length ≤ r.length ∧ r.take mk4.length = mk4) == false) = true := by simp [h2]
      rw [this, cond_true, f98_eq mk4_B hr k (by omega)]
      have hm : min 4 r.length = r.length := by omega
      unfold mkd
      rw [hm, List.take_of_length_le (Nat.le_refl r.length)]
      have : (r.length ≤ mk4.length ∧ mk4.take r.length = r) ↔ r = mk4.take r.length := ⟨fun h => h.2.symm, fun h => ⟨by omega, h.symm⟩⟩
      simp only [this, h, decide_true, Bool.true_and]
  · have c1 : decide ((r.length : Int) < ((n + 4 : Nat) : Int)) = false := by simp only [decide_eq_false_iff_not]; omega
    rw [c1]
    simp [h]
theorem rdAt_len (l : List Int) (n i : Nat) : (rdAt l n i).l.length ≤ n := by
  have := readF_len (((l.drop i).take (n + 4)).drop 4) n
  unfold rdAt
  refine Nat.le_trans this ?_
  simp only [List.length_drop, List.length_take]
  omega
theorem f82_eq {l : List Int} (hB : B l) (hl : l.length ≤ 200000) (n i : Nat) (hn : 24 ≤ n ∧ n ≤ 1000) (hi : i ≤ l.length) (k : Nat) (hk : 1100 < k) (K : Int → Int → Int → Int → Bool → List Int → Option R) (X : Option R) (hK : ∀ a b c d m, K a b c d false m = X) :
    f82 k l (i : Int) (n : Int) K = if stF l n i then K (rdAt l n i).a (rdAt l n i).b (rdAt l n i).c (rdAt l n i).d true (rdAt l n i).l else X := by
  rw [f82_def]
  obtain ⟨k, rfl⟩ : ∃ j, k = j + 1 := ⟨k - 1, by omega⟩
  have w1 : IntKind.i64.wrap ((n : Int) + 4) = ((n + 4 : Nat) : Int) := by rw [wraps_i64 _ (by omega) (by omega)]; omega
  have w2 : IntKind.i64.wrap ((l.length : Int) - (i : Int)) = ((l.length - i : Nat) : Int) := by rw [wraps_i64 _ (by omega) (by omega)]; omega
  have w3 : IntKind.i64.wrap ((i : Int) + 4) = ((i + 4 : Nat) : Int) := by rw [wraps_i64 _ (by omega) (by omega)]; omega
  have w4 : IntKind.i64.wrap (((i + 4 : Nat) : Int) + (n : Int)) = ((i + 4 + n : Nat) : Int) := by rw [wraps_i64 _ (by omega) (by omega)]; omega
  simp only [f82d, w1, w2, w3, w4]
  by_cases h : n + 4 ≤ l.length - i
  · have c1 : (decide (((l.length - i : Nat) : Int) < ((n + 4 : Nat) : Int)) == false) = true := by
      have : decide (((l.length - i : Nat) : Int) < ((n + 4 : Nat) : Int)) = false := by simp only [decide_eq_false_iff_not]; omega
      rw [this]; rfl
    have c2 : decide ((0 : Int) ≤ (i : Int)) = true := by simp
    have c3 : decide ((i : Int) ≤ ((i + 4 : Nat) : Int)) = true := by simp only [decide_eq_true_eq]; omega
    have c4 : decide (((i + 4 : Nat) : Int) ≤ (l.length : Int)) = true := by simp only [decide_eq_true_eq]; omega
    have c5 : decide ((0 : Int) ≤ ((i + 4 : Nat) : Int)) = true := by simp only [decide_eq_true_eq]; omega
    have c6 : decide (((i + 4 : Nat) : Int) ≤ ((i + 4 + n : Nat) : Int)) = true := by simp only [decide_eq_true_eq]; omega
    have c7 : decide (((i + 4 + n : Nat) : Int) ≤ (l.length : Int)) = true := by simp only [decide_eq_true_eq]; omega
    have hd : (l.drop i).length = l.length - i := List.length_drop
    have t1 : (l.take (i + 4)).drop i = (l.drop i).take 4 := by rw [List.drop_take]; congr 1; omega
    have t2 : (l.take (i + 4 + n)).drop (i + 4) = ((l.drop i).take (n + 4)).drop 4 := by
      rw [List.drop_take, List.drop_take, List.drop_drop]; congr 1; omega
    simp only [c1, c2, c3, c4, c5, c6, c7, Bool.and_self, cond_true, Int.toNat_natCast, mk4_str, t1, t2]
    rw [strOf_inj ((hB.drop i).take 4) mk4_B]
    have hmk : mkd (l.drop i) = decide ((l.drop i).take 4 = mk4) := by
      unfold mkd
      rw [hd, show min 4 (l.length - i) = 4 by omega]
      rfl
    unfold stF
    rw [hd, hmk]
    by_cases hm : (l.drop i).take 4 = mk4
    · simp only [hm, decide_true, Bool.not_true, cond_false, Bool.true_and, h]
      rw [f38_eq (((hB.drop i).take _).drop 4) n k (by simp only [List.length_drop, List.length_take]; omega)]
      show (rdAt l n i).app _ = _
      simp only [Rf.app]
      cases he : ((rdAt l n i).e == 0)
      · simp only [Bool.false_eq_true, if_false]; exact hK _ _ _ _ _
      · simp only [if_true]
    · simp only [hm, decide_false, Bool.not_false, cond_true, Bool.false_and, Bool.and_false, Bool.false_eq_true, if_false]
      exact hK _ _ _ _ _
  · have c1 : (decide (((l.length - i : Nat) : Int) < ((n + 4 : Nat) : Int)) == false) = false := by
      have : decide (((l.length - i : Nat) : Int) < ((n + 4 : Nat) : Int)) = true := by simp only [decide_eq_true_eq]; omega
      rw [this]; rfl
    rw [c1, cond_false]
    have : stF l n i = false := by
      unfold stF
      rw [List.length_drop]
      simp [h]
    rw [this]
    simp only [Bool.false_eq_true, if_false]
    exact hK _ _ _ _ _

theorem scanA {l : List Int} (hB : B l) (hl : l.length ≤ 200000) (n : Nat) (hn : 24 ≤ n ∧ n ≤ 1000) (k : Nat) (hk : 1100 < k) (x : Int → List Fr → List Int → Option R) : ∀ (m i : Nat) (fr : List Fr) (pl : List Int), i ≤ l.length → l.length - i < m → fr.length ≤ i → pl.length ≤ i →
    f80_0d k x l (n : Int) ((n + 4 : Nat) : Int) m (i : Int) fr pl = x ((scan l n m i fr pl).1 : Int) (scan l n m i fr pl).2.1 (scan l n m i fr pl).2.2
  | 0, i, fr, pl, _, h, _, _ => absurd h (Nat.not_lt_zero _)
  | m + 1, i, fr, pl, hi, hm, hf, hp => by
    by_cases h : i < l.length
    · have c1 : decide ((i : Int) < (l.length : Int)) = true := by simp only [decide_eq_true_eq]; omega
      have c2 : decide ((0 : Int) ≤ (i : Int)) = true := by simp
      have c3 : decide ((i : Int) ≤ (l.length : Int)) = true := by simp only [decide_eq_true_eq]; omega
      have w1 : IntKind.i64.wrap ((i : Int) + 1) = ((i + 1 : Nat) : Int) := by rw [wraps_i64 _ (by omega) (by omega)]; omega
      have w2 : IntKind.i64.wrap ((i : Int) + ((n + 4 : Nat) : Int)) = ((i + (n + 4) : Nat) : Int) := by rw [wraps_i64 _ (by omega) (by omega)]; omega
      have hd : (l.drop i).length = l.length - i := List.length_drop
      simp only [f80_0d, f80_0b, c1, cond_true, f80_1_def, f80_1d, c2, c3, Bool.and_self, Int.toNat_natCast, w1]
      rw [f97_eq _ (by omega) k (by omega), f97_eq _ (by omega) k (by omega)]
      simp only [scan, h, if_true]
      by_cases hs : (l.drop i).length < n + 4
      · have c4 : decide (((l.drop i).length : Int) < ((n + 4 : Nat) : Int)) = true := by simp only [decide_eq_true_eq]; omega
        rw [c4, cond_true]
        have hF : stF l n i = false := by unfold stF; simp; omega
        cases hm2 : mkd (l.drop i)
        · have hS : stS l n i = false := by unfold stS; rw [hm2]; simp
          simp only [hS, hF, cond_false, Bool.false_eq_true, if_false]
          exact scanA hB hl n hn k hk x m (i + 1) fr pl (by omega) (by omega) (by omega) (by omega)
        · have hS : stS l n i = true := by unfold stS; rw [hm2]; simp [hs]; omega
          simp only [hS, cond_true, if_true]
      · have c4 : decide (((l.drop i).length : Int) < ((n + 4 : Nat) : Int)) = false := by simp only [decide_eq_false_iff_not]; omega
        have hS : stS l n i = false := by unfold stS; simp; omega
        rw [c4, cond_false]
        simp only [f80_1000011_def, f80_1000011d, hS, Bool.false_eq_true, if_false]
        cases hm2 : mkd (l.drop i)
        · have hF : stF l n i = false := by unfold stF; rw [hm2]; simp
          simp only [hF, cond_false, Bool.false_eq_true, if_false]
          exact scanA hB hl n hn k hk x m (i + 1) fr pl (by omega) (by omega) (by omega) (by omega)
        · rw [cond_true, f79_eq k (by omega)]
          have h4 : mk4.length = 4 := rfl
          have c5 : decide ((0 : Int) ≤ ((mk4.length : Nat) : Int)) = true := by simp
          have c6 : decide (((mk4.length : Nat) : Int) ≤ ((n + 4 : Nat) : Int)) = true := by rw [h4]; simp only [decide_eq_true_eq]; omega
          have c7 : decide (((n + 4 : Nat) : Int) ≤ ((l.drop i).length : Int)) = true := by simp only [decide_eq_true_eq]; omega
          simp only [c5, c6, c7, Bool.and_self, cond_true, Int.toNat_natCast]
          rw [h4, f37_eq (((hB.drop i).take _).drop 4) n k (by simp only [List.length_drop, List.length_take]; omega)]
          show (rdAt l n i).app _ = _
          simp only [Rf.app]
          cases he : ((rdAt l n i).e == 0)
          · have hF : stF l n i = false := by unfold stF; rw [he]; simp
            simp only [hF, cond_false, Bool.false_eq_true, if_false]
            exact scanA hB hl n hn k hk x m (i + 1) fr pl (by omega) (by omega) (by omega) (by omega)
          · have hF : stF l n i = true := by unfold stF; rw [he, hm2]; simp; omega
            simp only [hF, cond_true, if_true]
            have l1 := lim56
            have l2 := lim8
            rw [bif_le (by simp only [List.length_cons, List.length_nil]; omega), bif_le (by simp only [List.length_cons, List.length_nil]; omega), w2]
            exact scanA hB hl n hn k hk x m (i + (n + 4)) _ _ (by omega) (by omega) (by simp; omega) (by simp; omega)
    · have c1 : decide ((i : Int) < (l.length : Int)) = false := by simp only [decide_eq_false_iff_not]; omega
      simp only [f80_0d, f80_0b, c1, cond_false, scan, h, if_false]
theorem scanB {l : List Int} (hB : B l) (hl : l.length ≤ 200000) (n : Nat) (hn : 24 ≤ n ∧ n ≤ 1000) (k : Nat) (hk : 1200 < k) (x : Int → List Fr → Option R) : ∀ (m i : Nat) (fr : List Fr) (pl : List Int), i ≤ l.length → l.length - i < m → fr.length ≤ i →
    f44_0d k x (n : Int) l m (i : Int) fr = x ((scan l n m i fr pl).1 : Int) (scan l n m i fr pl).2.1
  | 0, i, fr, pl, _, h, _ => absurd h (Nat.not_lt_zero _)
  | m + 1, i, fr, pl, hi, hm, hf => by
    by_cases h : i < l.length
    · have c1 : decide ((i : Int) < (l.length : Int)) = true := by simp only [decide_eq_true_eq]; omega
      have c2 : decide ((0 : Int) ≤ (i : Int)) = true := by simp
      have c3 : decide ((i : Int) ≤ (l.length : Int)) = true := by simp only [decide_eq_true_eq]; omega
      have w1 : IntKind.i64.wrap ((i : Int) + 1) = ((i + 1 : Nat) : Int) := by rw [wraps_i64 _ (by omega) (by omega)]; omega
      have w2 : IntKind.i64.wrap ((IntKind.i64.wrap ((i : Int) + (n : Int))) + 4) = ((i + (n + 4) : Nat) : Int) := by rw [wraps_i64 ((i : Int) + (n : Int)) (by omega) (by omega), wraps_i64 _ (by omega) (by omega)]; omega
      have hd : (l.drop i).length = l.length - i := List.length_drop
      have ht : (l.drop i).take (l.length - i) = l.drop i := List.take_of_length_le (by omega)
      simp only [f44_0d, f44_0b, c1, cond_true, beq_self_eq_true, c2, c3, Bool.and_self, Int.toNat_natCast, ht]
      rw [f81_eq (hB.drop i) (by omega) n hn.2 k (by omega)]
      simp only [scan, h, if_true]
      rw [show (decide ((l.drop i).length < n + 4) && mkd (l.drop i)) = stS l n i from rfl]
      cases hS : stS l n i
      · simp only [Bool.not_false, cond_true, Bool.false_eq_true, if_false, f44_1_def, f44_1d]
        rw [f82_eq hB hl n i hn hi k (by omega) _ (f44_0d k x (n : Int) l m (IntKind.i64.wrap ((i : Int) + 1)) fr) (fun a b c d q => by simp only [Bool.not_false, cond_true])]
        cases hF : stF l n i
        · simp only [Bool.false_eq_true, if_false, w1]
          exact scanB hB hl n hn k hk x m (i + 1) fr pl (by omega) (by omega) (by omega)
        · simp only [if_true, Bool.not_true, cond_false]
          have l1 := lim56
          rw [bif_le (by simp only [List.length_cons, List.length_nil]; omega), w2]
          have hF2 : n + 4 ≤ (l.drop i).length := by
            unfold stF at hF
            simp only [Bool.and_eq_true, decide_eq_true_eq] at hF
            exact hF.1
          exact scanB hB hl n hn k hk x m (i + (n + 4)) _ _ (by omega) (by omega) (by simp; omega)
      · simp only [Bool.not_true, cond_false, if_true]
    · have c1 : decide ((i : Int) < (l.length : Int)) = false := by simp only [decide_eq_false_iff_not]; omega
      simp only [f44_0d, f44_0b, c1, scan, h, if_false]
      rfl
end Go.Proofs.Ytahdmfboidjkoaa.PM

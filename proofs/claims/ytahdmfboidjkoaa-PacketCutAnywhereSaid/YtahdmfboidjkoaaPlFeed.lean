/- The laws of streams: Feed, Stream and Found. -/
import Derived.Test.YtahdmfboidjkoaaPlScan
set_option linter.unusedSimpArgs false
set_option linter.unusedVariables false
namespace Go.Proofs.Ytahdmfboidjkoaa.PM
open Go Go.Proofs.Ytahdmfboidjkoaa.Bt Go.Proofs.Ytahdmfboidjkoaa.Crc
variable {R : Type}

/-- A list of frames is told the same as itself. -/
theorem same_frames (k : Nat) (K : Bool → Option R) (l : List Fr) (hl : l.length < 4611686018427387904) (hb : ∀ y ∈ l, y.2.2.2.2.1.length < 4611686018427387904 ∧ y.2.2.2.2.1.length + 3 < k) : ∀ (d f i : Nat), i + d = l.length → d < f →
    f45_0d k K (K true) l l (l.length : Int) f (i : Int) = K true
  | d, 0, i, _, h => absurd h (Nat.not_lt_zero _)
  | 0, f + 1, i, hi, _ => by
    have h1 : decide ((i : Int) < (l.length : Int)) = false := by simp only [decide_eq_false_iff_not]; omega
    simp only [f45_0d, f45_0b, h1, cond_false]
  | d + 1, f + 1, i, hi, hf => by
    have h1 : decide ((i : Int) < (l.length : Int)) = true := by simp only [decide_eq_true_eq]; omega
    have h0 : decide ((0 : Int) ≤ (i : Int)) = true := by simp
    have hli : i < l.length := by omega
    have w2 : IntKind.i64.wrap ((i : Int) + 1) = ((i + 1 : Nat) : Int) := by rw [wraps_i64 _ (by omega) (by omega)]; omega
    have hg : ∀ z : Fr, l.getD i z = l[i] := fun z => by rw [List.getD_eq_getElem?_getD, List.getElem?_eq_getElem hli]; rfl
    have hh := hb _ (List.getElem_mem hli)
    simp only [f45_0d, f45_0b, h1, h0, cond_true, Bool.and_self, Int.toNat_natCast, hg, w2]
    rw [f39_eq k _ _ _ _ _ _ _ _ _ _ hh.1 hh.2]
    simp only [and_self, decide_true, Bool.not_true, cond_false]
    exact same_frames k K l hl hb d f (i + 1) (by omega) (by omega)
theorem f45_eq (l : List Fr) (hl : l.length < 4611686018427387904) (k : Nat) (hk : l.length + 1 < k) (hb : ∀ y ∈ l, y.2.2.2.2.1.length < 4611686018427387904 ∧ y.2.2.2.2.1.length + 4 < k) (K : Bool → Option R) : f45 k l l K = K true := by
  rw [f45_def]
  obtain ⟨k, rfl⟩ : ∃ j, k = j + 1 := ⟨k - 1, by omega⟩
  simp only [f45d, bne_self_eq_false, cond_false, f45_0_def]
  exact same_frames k K l hl (fun y hy => ⟨(hb y hy).1, by have := (hb y hy).2; omega⟩) l.length k 0 (by omega) (by omega)
theorem same_places (k : Nat) (K : Bool → Option R) (l : List Int) (hl : l.length < 4611686018427387904) : ∀ (d f i : Nat), i + d = l.length → d < f →
    f55_0d k K (K true) l l (l.length : Int) f (i : Int) = K true
  | d, 0, i, _, h => absurd h (Nat.not_lt_zero _)
  | 0, f + 1, i, hi, _ => by
    have h1 : decide ((i : Int) < (l.length : Int)) = false := by simp only [decide_eq_false_iff_not]; omega
    simp only [f55_0d, f55_0b, h1, cond_false]
  | d + 1, f + 1, i, hi, hf => by
    have h1 : decide ((i : Int) < (l.length : Int)) = true := by simp only [decide_eq_true_eq]; omega
    have h0 : decide ((0 : Int) ≤ (i : Int)) = true := by simp
    have w2 : IntKind.i64.wrap ((i : Int) + 1) = ((i + 1 : Nat) : Int) := by rw [wraps_i64 _ (by omega) (by omega)]; omega
    simp only [f55_0d, f55_0b, h1, h0, cond_true, Bool.and_self, Int.toNat_natCast, w2, bne_self_eq_false, cond_false]
    exact same_places k K l hl d f (i + 1) (by omega) (by omega)
theorem f55_eq (l : List Int) (hl : l.length < 4611686018427387904) (k : Nat) (hk : l.length + 1 < k) (K : Bool → Option R) : f55 k l l K = K true := by
  rw [f55_def]
  obtain ⟨k, rfl⟩ : ∃ j, k = j + 1 := ⟨k - 1, by omega⟩
  simp only [f55d, bne_self_eq_false, cond_false, f55_0_def]
  exact same_places k K l hl l.length k 0 (by omega) (by omega)

/-! what scan gives is not too long -/
theorem scan_ok (l : List Int) (n : Nat) : ∀ (m i : Nat) (fr : List Fr) (pl : List Int), i ≤ l.length → fr.length ≤ i → pl.length ≤ i → (∀ y ∈ fr, y.2.2.2.2.1.length ≤ n) →
    (scan l n m i fr pl).1 ≤ l.length ∧ (scan l n m i fr pl).2.1.length ≤ l.length ∧ (scan l n m i fr pl).2.2.length ≤ l.length ∧ ∀ y ∈ (scan l n m i fr pl).2.1, y.2.2.2.2.1.length ≤ n
  | 0, i, fr, pl, hi, h1, h2, h3 => ⟨hi, by simp only [scan]; omega, by simp only [scan]; omega, h3⟩
  | m + 1, i, fr, pl, hi, h1, h2, h3 => by
    simp only [scan]
    split
    · split
      · exact ⟨hi, by simp only; omega, by simp only; omega, h3⟩
      · split
        · rename_i hF
          have hF2 : n + 4 ≤ (l.drop i).length := by
            unfold stF at hF
            simp only [Bool.and_eq_true, decide_eq_true_eq] at hF
            exact hF.1
          rw [List.length_drop] at hF2
          refine scan_ok l n m (i + (n + 4)) _ _ (by omega) (by simp; omega) (by simp; omega) fun y hy => ?_
          rcases List.mem_append.1 hy with hy | hy
          · exact h3 y hy
          · rcases List.mem_singleton.1 hy with rfl
            exact rdAt_len l n i
        · exact scan_ok l n m (i + 1) _ _ (by omega) (by omega) (by omega) h3
    · exact ⟨hi, by simp only; omega, by simp only; omega, h3⟩
/-- Where fewer bytes are left than a frame has, none is found. -/
theorem scan_short (l : List Int) (n : Nat) : ∀ (m i : Nat) (fr : List Fr) (pl : List Int), l.length < i + (n + 4) → (scan l n m i fr pl).2 = (fr, pl)
  | 0, i, fr, pl, _ => rfl
  | m + 1, i, fr, pl, h => by
    have hF : stF l n i = false := by unfold stF; rw [List.length_drop]; simp; omega
    simp only [scan, hF, Bool.false_eq_true, if_false]
    split
    · split
      · rfl
      · exact scan_short l n m (i + 1) fr pl (by omega)
    · rfl
theorem scanC {l : List Int} (hB : B l) (hl : l.length ≤ 200000) (n : Nat) (hn : 24 ≤ n ∧ n ≤ 1000) (k : Nat) (hk : 1200 < k) (x : List Fr → List Int → Option R) : ∀ (m i : Nat) (fr : List Fr) (pl : List Int), i ≤ l.length → l.length - i < m → fr.length ≤ i → pl.length ≤ i →
    f54_0d k x l (n : Int) m (i : Int) fr pl = x (scan l n m i fr pl).2.1 (scan l n m i fr pl).2.2
  | 0, i, fr, pl, _, h, _, _ => absurd h (Nat.not_lt_zero _)
  | m + 1, i, fr, pl, hi, hm, hf, hp => by
    by_cases h : i < l.length
    · have c1 : decide ((i : Int) < (l.length : Int)) = true := by simp only [decide_eq_true_eq]; omega
      have w1 : IntKind.i64.wrap ((i : Int) + 1) = ((i + 1 : Nat) : Int) := by rw [wraps_i64 _ (by omega) (by omega)]; omega
      have w2 : IntKind.i64.wrap ((i : Int) + (IntKind.i64.wrap ((n : Int) + 4))) = ((i + (n + 4) : Nat) : Int) := by rw [wraps_i64 ((n : Int) + 4) (by omega) (by omega), wraps_i64 _ (by omega) (by omega)]; omega
      simp only [f54_0d, f54_0b, c1, cond_true, f54_1_def, f54_1d]
      rw [f82_eq hB hl n i hn hi k (by omega) _ (f54_0d k x l (n : Int) m (IntKind.i64.wrap ((i : Int) + 1)) fr pl) (fun a b c d q => by simp only [Bool.not_false, cond_true])]
      cases hF : stF l n i
      · simp only [Bool.false_eq_true, if_false, w1]
        rw [scanC hB hl n hn k hk x m (i + 1) fr pl (by omega) (by omega) (by omega) (by omega)]
        simp only [scan, h, if_true, hF, Bool.false_eq_true, if_false]
        split
        · rename_i hS
          have hS2 : (l.drop i).length < n + 4 := by
            unfold stS at hS
            simp only [Bool.and_eq_true, decide_eq_true_eq] at hS
            exact hS.1
          rw [List.length_drop] at hS2
          rw [scan_short l n m (i + 1) fr pl (by omega)]
        · rfl
      · have hF2 : n + 4 ≤ (l.drop i).length := by
          unfold stF at hF
          simp only [Bool.and_eq_true, decide_eq_true_eq] at hF
          exact hF.1
        rw [List.length_drop] at hF2
        have hS : stS l n i = false := by unfold stS; rw [List.length_drop]; simp only [Bool.and_eq_false_iff, decide_eq_false_iff_not]; left; omega
        simp only [if_true, Bool.not_true, cond_false, scan, h, hS, hF, Bool.false_eq_true, if_false]
        have l1 := lim56
        have l2 := lim8
        rw [bif_le (by simp only [List.length_cons, List.length_nil]; omega), bif_le (by simp only [List.length_cons, List.length_nil]; omega), w2]
        exact scanC hB hl n hn k hk x m (i + (n + 4)) _ _ (by omega) (by omega) (by simp; omega) (by simp; omega)
    · have c1 : decide ((i : Int) < (l.length : Int)) = false := by simp only [decide_eq_false_iff_not]; omega
      simp only [f54_0d, f54_0b, c1, cond_false, scan, h, if_false]

/-- What Feed answers. -/
structure Fd where
  e : Int
  fr : List Fr
  held : List Int
def feedE (h b : Int) (n : Int) : Int := if ¬(24 ≤ n ∧ n ≤ 1000) then 1 else if 200000 < h + b then 2 else if h ≥ n + 4 then 3 else 0
def feed (h b : List Int) (n : Int) : Fd := if feedE h.length b.length n ≠ 0 then ⟨feedE h.length b.length n, [], []⟩ else
  ⟨0, (scan (h ++ b) n.toNat ((h ++ b).length + 1) 0 [] []).2.1, (h ++ b).drop (scan (h ++ b) n.toNat ((h ++ b).length + 1) 0 [] []).1⟩
theorem scan_fuel (l : List Int) (n : Nat) : ∀ (m m' i : Nat) (fr : List Fr) (pl : List Int), l.length - i < m → l.length - i < m' → scan l n m i fr pl = scan l n m' i fr pl
  | 0, m', i, fr, pl, h, _ => absurd h (Nat.not_lt_zero _)
  | m + 1, 0, i, fr, pl, _, h => absurd h (Nat.not_lt_zero _)
  | m + 1, m' + 1, i, fr, pl, h, h' => by
    simp only [scan]
    split
    · split
      · rfl
      · split
        · exact scan_fuel l n m m' _ _ _ (by omega) (by omega)
        · exact scan_fuel l n m m' _ _ _ (by omega) (by omega)
    · rfl
theorem f80_eq {l : List Int} (hB : B l) (hl : l.length ≤ 200000) (n : Nat) (hn : 24 ≤ n ∧ n ≤ 1000) (k : Nat) (hk : l.length + 1102 < k) (K : Int → List Fr → List Int → Option R) : f80 k l (n : Int) K = K ((scan l n (l.length + 1) 0 [] []).1 : Int) (scan l n (l.length + 1) 0 [] []).2.1 (scan l n (l.length + 1) 0 [] []).2.2 := by
  rw [f80_def]
  obtain ⟨k, rfl⟩ : ∃ j, k = j + 1 := ⟨k - 1, by omega⟩
  have h4 : ((mk4.length : Nat) : Int) = 4 := rfl
  have w : IntKind.i64.wrap ((n : Int) + 4) = ((n + 4 : Nat) : Int) := by rw [wraps_i64 _ (by omega) (by omega)]; omega
  simp only [f80d, f79_eq k (show 0 < k by omega), h4, w, f80_0_def]
  rw [scan_fuel l n (l.length + 1) k 0 [] [] (by omega) (by omega)]
  exact scanA hB hl n hn k (by omega) K k 0 [] [] (by omega) (by omega) (by simp) (by simp)
theorem flat2 (a b : List Int) : [a, b].flatten = a ++ b := by simp
theorem f43_eq {h b : List Int} (hH : B h) (hb : B b) (l1 : h.length ≤ 140737488351232) (l2 : b.length ≤ 140737488351232) (n : Int) (k : Nat) (hk : h.length + b.length + 2000 < k) (K : Int → List Fr → List Int → Option R) : f43 k h b n K = K (feed h b n).e (feed h b n).fr (feed h b n).held := by
  rw [f43_def]
  obtain ⟨k, rfl⟩ : ∃ j, k = j + 1 := ⟨k - 1, by omega⟩
  have w : IntKind.i64.wrap ((h.length : Int) + (b.length : Int)) = (h.length : Int) + (b.length : Int) := wraps_i64 _ (by omega) (by omega)
  have h4 : ((mk4.length : Nat) : Int) = 4 := rfl
  simp only [f43d, f75_eq k (show 2 < k by omega), chkN, w, feed, feedE, f79_eq k (show 0 < k by omega), h4]
  by_cases h1 : 24 ≤ n ∧ n ≤ 1000
  · obtain ⟨q, rfl⟩ := Int.eq_ofNat_of_zero_le (show 0 ≤ n by omega)
    simp only [h1, and_self, if_true, not_true, if_false, bne_self_eq_false, cond_false]
    by_cases h2 : 200000 < (h.length : Int) + (b.length : Int)
    · have c : decide ((h.length : Int) + (b.length : Int) > 200000) = true := by simp only [decide_eq_true_eq]; omega
      rw [c, cond_true]; simp [h2]
    · have c : decide ((h.length : Int) + (b.length : Int) > 200000) = false := by simp only [decide_eq_false_iff_not]; omega
      have w2 : IntKind.i64.wrap ((q : Int) + 4) = (q : Int) + 4 := wraps_i64 _ (by omega) (by omega)
      rw [c, cond_false, w2]
      simp only [h2, if_false]
      by_cases h3 : (h.length : Int) ≥ (q : Int) + 4
      · have c3 : decide ((h.length : Int) ≥ (q : Int) + 4) = true := by simp only [decide_eq_true_eq]; omega
        rw [c3, cond_true]; simp [h3]
      · have c3 : decide ((h.length : Int) ≥ (q : Int) + 4) = false := by simp only [decide_eq_false_iff_not]; omega
        have hlen : (h ++ b).length = h.length + b.length := List.length_append
        rw [c3, cond_false, f40_eq _ (by simp) (by rw [flat2, hlen]; omega) k (by simp; omega), flat2, f80_eq (hH.app hb) (by omega) q (by omega) k (by omega)]
        have ok := scan_ok (h ++ b) q ((h ++ b).length + 1) 0 [] [] (by omega) (by simp) (by simp) (fun y hy => by cases hy)
        simp only [h3, if_false, ne_eq, not_true, Int.toNat_natCast]
        generalize scan (h ++ b) q ((h ++ b).length + 1) 0 [] [] = z at *
        have c4 : decide ((0 : Int) ≤ (z.1 : Int)) = true := by simp
        have c5 : decide ((z.1 : Int) ≤ ((h ++ b).length : Int)) = true := by simp only [decide_eq_true_eq]; omega
        simp only [c4, c5, Bool.and_self, cond_true, Int.toNat_natCast]
        rw [f41_eq _ (by rw [List.length_take, List.length_drop]; omega) k (by omega), List.take_of_length_le (by rw [List.length_drop]; omega)]
  · simp only [h1, if_false, not_false_eq_true, if_true]; rfl
theorem f44_eq {h b : List Int} (hH : B h) (hb : B b) (l1 : h.length ≤ 140737488351232) (l2 : b.length ≤ 140737488351232) (n : Int) (k : Nat) (hk : h.length + b.length + 2000 < k) (K : Int → List Fr → List Int → Option R) : f44 k h b n K = K (feed h b n).e (feed h b n).fr (feed h b n).held := by
  rw [f44_def]
  obtain ⟨k, rfl⟩ : ∃ j, k = j + 1 := ⟨k - 1, by omega⟩
  have w : IntKind.i64.wrap ((h.length : Int) + (b.length : Int)) = (h.length : Int) + (b.length : Int) := wraps_i64 _ (by omega) (by omega)
  simp only [f44d, f76_eq k (show 2 < k by omega), chkN, w, feed, feedE]
  by_cases h1 : 24 ≤ n ∧ n ≤ 1000
  · obtain ⟨q, rfl⟩ := Int.eq_ofNat_of_zero_le (show 0 ≤ n by omega)
    simp only [h1, and_self, if_true, not_true, if_false, bne_self_eq_false, cond_false]
    by_cases h2 : 200000 < (h.length : Int) + (b.length : Int)
    · have c : decide ((h.length : Int) + (b.length : Int) > 200000) = true := by simp only [decide_eq_true_eq]; omega
      rw [c, cond_true]; simp [h2]
    · have c : decide ((h.length : Int) + (b.length : Int) > 200000) = false := by simp only [decide_eq_false_iff_not]; omega
      have w2 : IntKind.i64.wrap ((q : Int) + 4) = (q : Int) + 4 := wraps_i64 _ (by omega) (by omega)
      rw [c, cond_false, w2]
      simp only [h2, if_false]
      by_cases h3 : (h.length : Int) ≥ (q : Int) + 4
      · have c3 : decide ((h.length : Int) ≥ (q : Int) + 4) = true := by simp only [decide_eq_true_eq]; omega
        rw [c3, cond_true]; simp [h3]
      · have c3 : decide ((h.length : Int) ≥ (q : Int) + 4) = false := by simp only [decide_eq_false_iff_not]; omega
        have hlen : (h ++ b).length = h.length + b.length := List.length_append
        rw [c3, cond_false, f40_eq _ (by simp) (by rw [flat2, hlen]; omega) k (by simp; omega), flat2, f44_0_def]
        have := scanB (hH.app hb) (by omega) q (by omega) k (by omega) (fun y0_0_0 y0_0_2 => (bif (decide ((0 : Int) ≤ y0_0_0) && decide (y0_0_0 ≤ ((h ++ b).length : Int))) then (f41 k (((h ++ b).drop (Int.toNat y0_0_0)).take ((h ++ b).length - (Int.toNat y0_0_0))) (fun r34820_0 => (K (0 : Int) y0_0_2 r34820_0))) else none)) k 0 [] [] (by omega) (by omega) (by simp)
        refine Eq.trans this ?_
        rw [scan_fuel (h ++ b) q k ((h ++ b).length + 1) 0 [] [] (by omega) (by omega)]
        have ok := scan_ok (h ++ b) q ((h ++ b).length + 1) 0 [] [] (by omega) (by simp) (by simp) (fun y hy => by cases hy)
        simp only [h3, if_false, ne_eq, not_true, Int.toNat_natCast]
        generalize scan (h ++ b) q ((h ++ b).length + 1) 0 [] [] = z at *
        have c4 : decide ((0 : Int) ≤ (z.1 : Int)) = true := by simp
        have c5 : decide ((z.1 : Int) ≤ ((h ++ b).length : Int)) = true := by simp only [decide_eq_true_eq]; omega
        simp only [c4, c5, Bool.and_self, cond_true, Int.toNat_natCast]
        rw [f41_eq _ (by rw [List.length_take, List.length_drop]; omega) k (by omega), List.take_of_length_le (by rw [List.length_drop]; omega)]
  · simp only [h1, if_false, not_false_eq_true, if_true]; rfl
theorem feed_ok (h b : List Int) (n : Int) : (feed h b n).fr.length ≤ h.length + b.length ∧ (feed h b n).held.length ≤ h.length + b.length ∧ ∀ y ∈ (feed h b n).fr, y.2.2.2.2.1.length ≤ 1000 := by
  unfold feed
  split
  · exact ⟨by simp, by simp, fun y hy => by cases hy⟩
  · rename_i hh
    have ok := scan_ok (h ++ b) n.toNat ((h ++ b).length + 1) 0 [] [] (by omega) (by simp) (by simp) (fun y hy => by cases hy)
    have hlen : (h ++ b).length = h.length + b.length := List.length_append
    have hn : n ≤ 1000 := by
      by_cases g : 24 ≤ n ∧ n ≤ 1000
      · exact g.2
      · exfalso; apply hh; unfold feedE; rw [if_pos g]; decide
    refine ⟨?_, ?_, fun y hy => ?_⟩
    · exact Nat.le_trans (m := (h ++ b).length) ok.2.1 (by omega)
    · show (List.drop _ _).length ≤ _
      rw [List.length_drop]; omega
    · have := ok.2.2.2 y hy
      omega
theorem f9_eq {h b : List Int} (hH : B h) (hb : B b) (l1 : h.length ≤ 140737488351232) (l2 : b.length ≤ 140737488351232) (n : Int) (k : Nat) (hk : h.length + b.length + 2010 < k) (K : Bool → Option R) : f9 k h b n K = K true := by
  rw [f9_def]
  obtain ⟨k, rfl⟩ : ∃ j, k = j + 1 := ⟨k - 1, by omega⟩
  obtain ⟨o1, o2, o3⟩ := feed_ok h b n
  simp only [f9d]
  rw [f43_eq hH hb l1 l2 n k (by omega), f44_eq hH hb l1 l2 n k (by omega)]
  simp only [beq_self_eq_true, cond_true]
  rw [f32_eq _ _ (by omega) k (by omega)]
  simp only [decide_true, beq_self_eq_true, cond_true]
  rw [f45_eq _ (by omega) k (by omega) (fun y hy => by have := o3 y hy; omega)]
  simp only [beq_self_eq_true, cond_true]
  rw [f21_eq k (by omega)]
end Go.Proofs.Ytahdmfboidjkoaa.PM

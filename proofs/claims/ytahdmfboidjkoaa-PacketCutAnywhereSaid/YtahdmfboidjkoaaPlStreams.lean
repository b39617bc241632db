/- The law of streams: Stream and Found. -/
import Derived.Test.YtahdmfboidjkoaaPlFeed
set_option linter.unusedSimpArgs false
set_option linter.unusedVariables false
namespace Go.Proofs.Ytahdmfboidjkoaa.PM
open Go Go.Proofs.Ytahdmfboidjkoaa.Bt Go.Proofs.Ytahdmfboidjkoaa.Crc
variable {R : Type}

abbrev Fr.l (y : Fr) : List Int := y.2.2.2.2.1
def frE (n : Int) (y : Fr) : Int := chkF y.1 y.2.1 y.2.2.1 y.2.2.2.1 y.2.2.2.2.1 n
def frB (y : Fr) : List Int := mk4 ++ frm y.1 y.2.1 y.2.2.1 y.2.2.2.1 y.2.2.2.2.1
def errs (n : Int) : List Fr → Int
  | [] => 0
  | y :: l => if frE n y = 0 then errs n l else frE n y
def bts : List Fr → List Int
  | [] => []
  | y :: l => frB y ++ bts l
theorem frB_len {n : Int} {y : Fr} (h : frE n y = 0) : (frB y).length ≤ 1004 := by
  have hr := chkF_right h
  have h1 := hr.1
  have h5 := hr.2.2.2.2.1
  unfold frB
  rw [List.length_append, frm_len]
  have : mk4.length = 4 := rfl
  omega
theorem streamA (k : Nat) (K : Int → List Int → Option R) (x : List Int → Option R) (n : Int) (l : List Fr) (hl : l.length ≤ 1000) (hb : ∀ y ∈ l, B y.2.2.2.2.1 ∧ y.2.2.2.2.1.length < 4611686018427387904 ∧ y.2.2.2.2.1.length + 60 < k) : ∀ (d m i : Nat) (acc : List Int), i + d = l.length → d < m → acc.length ≤ i * 1004 →
    f52_1d k K x n l (l.length : Int) m (i : Int) acc = if errs n (l.drop i) = 0 then x (acc ++ bts (l.drop i)) else K (errs n (l.drop i)) []
  | d, 0, i, acc, _, h, _ => absurd h (Nat.not_lt_zero _)
  | 0, m + 1, i, acc, hi, _, _ => by
    have h1 : decide ((i : Int) < (l.length : Int)) = false := by simp only [decide_eq_false_iff_not]; omega
    simp only [f52_1d, f52_1b, h1, cond_false]
    rw [List.drop_eq_nil_of_le (by omega)]
    simp [errs, bts]
  | d + 1, m + 1, i, acc, hi, hm, ha => by
    have h1 : decide ((i : Int) < (l.length : Int)) = true := by simp only [decide_eq_true_eq]; omega
    have h0 : decide ((0 : Int) ≤ (i : Int)) = true := by simp
    have hli : i < l.length := by omega
    have w2 : IntKind.i64.wrap ((i : Int) + 1) = ((i + 1 : Nat) : Int) := by rw [wraps_i64 _ (by omega) (by omega)]; omega
    have hg : ∀ z : Fr, l.getD i z = l[i] := fun z => by rw [List.getD_eq_getElem?_getD, List.getElem?_eq_getElem hli]; rfl
    have hh := hb _ (List.getElem_mem hli)
    simp only [f52_1d, f52_1b, h1, h0, cond_true, Bool.and_self, Int.toNat_natCast, hg, w2]
    rw [f33_eq hh.1 hh.2.1 _ _ _ _ n k (by omega), List.drop_eq_getElem_cons hli]
    show (bif frE n l[i] != 0 then _ else _) = _
    by_cases he : frE n l[i] = 0
    · have e : (frE n l[i] != 0) = false := by rw [he]; rfl
      have hbf : bytesF l[i].1 l[i].2.1 l[i].2.2.1 l[i].2.2.2.1 l[i].2.2.2.2.1 n = frm l[i].1 l[i].2.1 l[i].2.2.1 l[i].2.2.2.1 l[i].2.2.2.2.1 := by unfold bytesF; exact if_pos he
      have hfl := frB_len he
      unfold frB at hfl
      rw [List.length_append] at hfl
      have h4 : mk4.length = 4 := rfl
      rw [e, cond_false, f79_eq k (by omega), hbf, bif_le (by rw [LIM1, h4]; omega), bif_le (by rw [LIM1, List.length_append, h4]; omega)]
      rw [streamA k K x n l hl hb d m (i + 1) _ (by omega) (by omega) (by rw [List.length_append, List.length_append, h4]; omega)]
      simp only [errs, he, if_true, bts, frB, List.append_assoc]
    · have e : (frE n l[i] != 0) = true := bne_iff_ne.2 he
      rw [e, cond_true]
      simp only [errs, he, if_false]
      rfl
theorem streamB (k : Nat) (K : Int → List Int → Option R) (x : Option R) (n : Int) (l : List Fr) (hl : l.length ≤ 1000) (hk : 10 < k) (hb : ∀ y ∈ l, y.2.2.2.2.1.length < 4611686018427387904) : ∀ (d m i : Nat), i + d = l.length → d < m →
    f53_0d k K x l n l (l.length : Int) m (i : Int) = if errs n (l.drop i) = 0 then x else K (errs n (l.drop i)) []
  | d, 0, i, _, h => absurd h (Nat.not_lt_zero _)
  | 0, m + 1, i, hi, _ => by
    have h1 : decide ((i : Int) < (l.length : Int)) = false := by simp only [decide_eq_false_iff_not]; omega
    simp only [f53_0d, f53_0b, h1, cond_false]
    rw [List.drop_eq_nil_of_le (by omega)]
    simp [errs]
  | d + 1, m + 1, i, hi, hm => by
    have h1 : decide ((i : Int) < (l.length : Int)) = true := by simp only [decide_eq_true_eq]; omega
    have h0 : decide ((0 : Int) ≤ (i : Int)) = true := by simp
    have hli : i < l.length := by omega
    have w2 : IntKind.i64.wrap ((i : Int) + 1) = ((i + 1 : Nat) : Int) := by rw [wraps_i64 _ (by omega) (by omega)]; omega
    have hg : ∀ z : Fr, l.getD i z = l[i] := fun z => by rw [List.getD_eq_getElem?_getD, List.getElem?_eq_getElem hli]; rfl
    have hh := hb _ (List.getElem_mem hli)
    simp only [f53_0d, f53_0b, h1, h0, cond_true, Bool.and_self, Int.toNat_natCast, hg, w2]
    rw [f36_eq k (by omega) _ _ _ _ _ _ hh, List.drop_eq_getElem_cons hli]
    show (bif frE n l[i] != 0 then _ else _) = _
    by_cases he : frE n l[i] = 0
    · have e : (frE n l[i] != 0) = false := by rw [he]; rfl
      rw [e, cond_false, streamB k K x n l hl hk hb d m (i + 1) (by omega) (by omega)]
      simp only [errs, he, if_true]
    · have e : (frE n l[i] != 0) = true := bne_iff_ne.2 he
      rw [e, cond_true]
      simp only [errs, he, if_false]
      rfl
theorem streamC (k : Nat) (x : List Int → Option R) (n : Int) (l : List Fr) (hl : l.length ≤ 1000) (hb : ∀ y ∈ l, B y.2.2.2.2.1 ∧ y.2.2.2.2.1.length < 4611686018427387904 ∧ y.2.2.2.2.1.length + 60 < k) : ∀ (d m i : Nat) (acc : List Int), i + d = l.length → d < m → acc.length ≤ i * 1004 → errs n (l.drop i) = 0 →
    f53_2d k x l (l.length : Int) m (i : Int) acc = x (acc ++ bts (l.drop i))
  | d, 0, i, acc, _, h, _, _ => absurd h (Nat.not_lt_zero _)
  | 0, m + 1, i, acc, hi, _, _, _ => by
    have h1 : decide ((i : Int) < (l.length : Int)) = false := by simp only [decide_eq_false_iff_not]; omega
    simp only [f53_2d, f53_2b, h1, cond_false]
    rw [List.drop_eq_nil_of_le (by omega)]
    simp [bts]
  | d + 1, m + 1, i, acc, hi, hm, ha, herr => by
    have h1 : decide ((i : Int) < (l.length : Int)) = true := by simp only [decide_eq_true_eq]; omega
    have h0 : decide ((0 : Int) ≤ (i : Int)) = true := by simp
    have h3 : decide (0 < ([(26 : Int), (207 : Int), (252 : Int), (29 : Int)] : List Int).length) = true := by decide
    have hli : i < l.length := by omega
    have w2 : IntKind.i64.wrap ((i : Int) + 1) = ((i + 1 : Nat) : Int) := by rw [wraps_i64 _ (by omega) (by omega)]; omega
    have hg : ∀ z : Fr, l.getD i z = l[i] := fun z => by rw [List.getD_eq_getElem?_getD, List.getElem?_eq_getElem hli]; rfl
    have hh := hb _ (List.getElem_mem hli)
    rw [List.drop_eq_getElem_cons hli] at herr
    have he : frE n l[i] = 0 := by
      simp only [errs] at herr
      split at herr
      · assumption
      · exact herr
    simp only [errs, he, if_true] at herr
    have hfl := frB_len he
    have hr := chkF_right he
    have hr1 := hr.1
    have hr5 := hr.2.2.2.2.1
    simp only [f53_2d, f53_2b, h1, h0, h3, cond_true, Bool.and_self, Int.toNat_natCast, hg, w2]
    rw [f74_eq hh.1 (by omega) _ _ _ _ k (by omega)]
    have hf : [acc, ([26, 207, 252, 29] : List Int), frm l[i].1 l[i].2.1 l[i].2.2.1 l[i].2.2.2.1 l[i].2.2.2.2.1].flatten = acc ++ frB l[i] := by simp [frB, mk4]
    have hfl2 : (acc ++ frB l[i]).length ≤ (i + 1) * 1004 := by rw [List.length_append]; omega
    rw [f40_eq _ (by simp) (by rw [hf]; omega) k (by simp; omega), hf, streamC k x n l hl hb d m (i + 1) _ (by omega) (by omega) hfl2 herr, List.drop_eq_getElem_cons hli]
    simp only [bts, List.append_assoc]
def strE (l : List Fr) (n : Int) : Int := if ¬(24 ≤ n ∧ n ≤ 1000) then 1 else if 1000 < l.length then 2 else errs n l
def strB (l : List Fr) (n : Int) : List Int := if strE l n = 0 then bts l else []
theorem f52_eq (l : List Fr) (n : Int) (k : Nat) (hk : 1010 < k) (hb : ∀ y ∈ l, B y.2.2.2.2.1 ∧ y.2.2.2.2.1.length < 4611686018427387904 ∧ y.2.2.2.2.1.length + 62 < k) (K : Int → List Int → Option R) : f52 k l n K = K (strE l n) (strB l n) := by
  rw [f52_def]
  obtain ⟨k, rfl⟩ : ∃ j, k = j + 1 := ⟨k - 1, by omega⟩
  simp only [f52d, f75_eq k (show 2 < k by omega), chkN, strB, strE]
  by_cases h1 : 24 ≤ n ∧ n ≤ 1000
  · simp only [h1, and_self, if_true, not_true, if_false, bne_self_eq_false, cond_false]
    by_cases h2 : 1000 < l.length
    · have c : decide ((l.length : Int) > 1000) = true := by simp only [decide_eq_true_eq]; omega
      rw [c, cond_true]; simp [h2]
    · have c : decide ((l.length : Int) > 1000) = false := by simp only [decide_eq_false_iff_not]; omega
      rw [c, cond_false, f52_1_def]
      simp only [h2, if_false]
      refine Eq.trans (streamA k K (fun y => K 0 y) n l (by omega) (fun y hy => ⟨(hb y hy).1, (hb y hy).2.1, by have := (hb y hy).2.2; omega⟩) l.length k 0 [] (by omega) (by omega) (by simp)) ?_
      rw [List.drop_zero, List.nil_append]
      by_cases h3 : errs n l = 0
      · simp [h3]
      · simp [h3]
  · simp only [h1, if_false, not_false_eq_true, if_true]; rfl
theorem f53_eq (l : List Fr) (n : Int) (k : Nat) (hk : 1010 < k) (hb : ∀ y ∈ l, B y.2.2.2.2.1 ∧ y.2.2.2.2.1.length < 4611686018427387904 ∧ y.2.2.2.2.1.length + 62 < k) (K : Int → List Int → Option R) : f53 k l n K = K (strE l n) (strB l n) := by
  rw [f53_def]
  obtain ⟨k, rfl⟩ : ∃ j, k = j + 1 := ⟨k - 1, by omega⟩
  simp only [f53d, f76_eq k (show 2 < k by omega), chkN, strB, strE]
  by_cases h1 : 24 ≤ n ∧ n ≤ 1000
  · simp only [h1, and_self, if_true, not_true, if_false, bne_self_eq_false, cond_false]
    by_cases h2 : 1000 < l.length
    · have c : decide ((l.length : Int) > 1000) = true := by simp only [decide_eq_true_eq]; omega
      rw [c, cond_true]; simp [h2]
    · have c : decide ((l.length : Int) > 1000) = false := by simp only [decide_eq_false_iff_not]; omega
      rw [c, cond_false, f53_0_def]
      simp only [h2, if_false]
      refine Eq.trans (streamB k K _ n l (by omega) (by omega) (fun y hy => (hb y hy).2.1) l.length k 0 (by omega) (by omega)) ?_
      rw [List.drop_zero]
      by_cases h3 : errs n l = 0
      · simp only [h3, if_true, f53_2_def]
        refine Eq.trans (streamC k (fun y => K 0 y) n l (by omega) (fun y hy => ⟨(hb y hy).1, (hb y hy).2.1, by have := (hb y hy).2.2; omega⟩) l.length k 0 [] (by omega) (by omega) (by simp) (by rw [List.drop_zero]; exact h3)) ?_
        rw [List.drop_zero, List.nil_append]
      · simp [h3]
  · simp only [h1, if_false, not_false_eq_true, if_true]; rfl
theorem bts_len {n : Int} : ∀ {l : List Fr}, errs n l = 0 → (bts l).length ≤ l.length * 1004
  | [], _ => by simp [bts]
  | y :: l, h => by
    have he : frE n y = 0 := by
      simp only [errs] at h
      split at h
      · assumption
      · exact h
    simp only [errs, he, if_true] at h
    have := bts_len h
    have := frB_len he
    simp only [bts, List.length_append, List.length_cons]
    omega
theorem strB_len (l : List Fr) (n : Int) : (strB l n).length ≤ 1004000 := by
  unfold strB
  split
  · rename_i h
    unfold strE at h
    split at h
    · cases h
    · split at h
      · cases h
      · have := bts_len h
        omega
  · simp
/-- What Found answers. -/
def fndE (b : List Int) (n : Int) : Int := if ¬(24 ≤ n ∧ n ≤ 1000) then 1 else if 200000 < b.length then 2 else 0
def fndF (b : List Int) (n : Int) : List Fr := if fndE b n = 0 then (scan b n.toNat (b.length + 1) 0 [] []).2.1 else []
def fndP (b : List Int) (n : Int) : List Int := if fndE b n = 0 then (scan b n.toNat (b.length + 1) 0 [] []).2.2 else []
theorem f46_eq {b : List Int} (hB : B b) (hl : b.length ≤ 140737488351232) (n : Int) (k : Nat) (hk : b.length + 1300 < k) (K : Int → List Fr → List Int → Option R) : f46 k b n K = K (fndE b n) (fndF b n) (fndP b n) := by
  rw [f46_def]
  obtain ⟨k, rfl⟩ : ∃ j, k = j + 1 := ⟨k - 1, by omega⟩
  simp only [f46d, f75_eq k (show 2 < k by omega), chkN, fndF, fndP, fndE]
  by_cases h1 : 24 ≤ n ∧ n ≤ 1000
  · obtain ⟨q, rfl⟩ := Int.eq_ofNat_of_zero_le (show 0 ≤ n by omega)
    simp only [h1, and_self, if_true, not_true, if_false, bne_self_eq_false, cond_false]
    by_cases h2 : 200000 < b.length
    · have c : decide ((b.length : Int) > 200000) = true := by simp only [decide_eq_true_eq]; omega
      rw [c, cond_true]; simp [h2]
    · have c : decide ((b.length : Int) > 200000) = false := by simp only [decide_eq_false_iff_not]; omega
      rw [c, cond_false, f80_eq hB (by omega) q (by omega) k (by omega)]
      simp only [h2, if_false, if_true, Int.toNat_natCast]
  · simp only [h1, if_false, not_false_eq_true, if_true]; rfl
theorem f54_eq {b : List Int} (hB : B b) (hl : b.length ≤ 140737488351232) (n : Int) (k : Nat) (hk : b.length + 1300 < k) (K : Int → List Fr → List Int → Option R) : f54 k b n K = K (fndE b n) (fndF b n) (fndP b n) := by
  rw [f54_def]
  obtain ⟨k, rfl⟩ : ∃ j, k = j + 1 := ⟨k - 1, by omega⟩
  simp only [f54d, f76_eq k (show 2 < k by omega), chkN, fndF, fndP, fndE]
  by_cases h1 : 24 ≤ n ∧ n ≤ 1000
  · obtain ⟨q, rfl⟩ := Int.eq_ofNat_of_zero_le (show 0 ≤ n by omega)
    simp only [h1, and_self, if_true, not_true, if_false, bne_self_eq_false, cond_false]
    by_cases h2 : 200000 < b.length
    · have c : decide ((b.length : Int) > 200000) = true := by simp only [decide_eq_true_eq]; omega
      rw [c, cond_true]; simp [h2]
    · have c : decide ((b.length : Int) > 200000) = false := by simp only [decide_eq_false_iff_not]; omega
      rw [c, cond_false, f54_0_def]
      simp only [h2, if_false, if_true, Int.toNat_natCast]
      rw [scan_fuel b q (b.length + 1) k 0 [] [] (by omega) (by omega)]
      exact scanC hB (by omega) q (by omega) k (by omega) (fun y z => K 0 y z) k 0 [] [] (by omega) (by omega) (by simp) (by simp)
  · simp only [h1, if_false, not_false_eq_true, if_true]; rfl
theorem fnd_ok (b : List Int) (n : Int) : (fndF b n).length ≤ b.length ∧ (fndP b n).length ≤ b.length ∧ ∀ y ∈ fndF b n, y.2.2.2.2.1.length ≤ 1000 := by
  unfold fndF fndP
  split
  · rename_i hh
    have ok := scan_ok b n.toNat (b.length + 1) 0 [] [] (by omega) (by simp) (by simp) (fun y hy => by cases hy)
    have hn : n ≤ 1000 := by
      by_cases g : 24 ≤ n ∧ n ≤ 1000
      · exact g.2
      · unfold fndE at hh; rw [if_pos g] at hh; cases hh
    refine ⟨ok.2.1, ok.2.2.1, fun y hy => ?_⟩
    have := ok.2.2.2 y hy
    omega
  · exact ⟨by simp, by simp, fun y hy => by cases hy⟩
theorem f13_eq {l : List Fr} {b : List Int} (hB : B b) (hl : b.length ≤ 140737488351232) (n : Int) (k : Nat) (hk : b.length + 1005000 < k) (hb : ∀ y ∈ l, B y.2.2.2.2.1 ∧ y.2.2.2.2.1.length < 4611686018427387904 ∧ y.2.2.2.2.1.length + 64 < k) (K : Bool → Option R) : f13 k l n b K = K true := by
  rw [f13_def]
  obtain ⟨k, rfl⟩ : ∃ j, k = j + 1 := ⟨k - 1, by omega⟩
  have hb' : ∀ y ∈ l, B y.2.2.2.2.1 ∧ y.2.2.2.2.1.length < 4611686018427387904 ∧ y.2.2.2.2.1.length + 62 < k := fun y hy => ⟨(hb y hy).1, (hb y hy).2.1, by have := (hb y hy).2.2; omega⟩
  have hs := strB_len l n
  obtain ⟨o1, o2, o3⟩ := fnd_ok b n
  simp only [f13d]
  rw [f52_eq l n k (by omega) hb', f53_eq l n k (by omega) hb']
  simp only [bne_self_eq_false, beq_self_eq_true, cond_true]
  rw [f32_eq _ _ (by omega) k (by omega)]
  simp only [decide_true, Bool.not_true, cond_false]
  rw [f46_eq hB hl n k (by omega), f54_eq hB hl n k (by omega)]
  simp only [beq_self_eq_true, cond_true]
  rw [f55_eq _ (by omega) k (by omega)]
  simp only [beq_self_eq_true, cond_true]
  rw [f45_eq _ (by omega) k (by omega) (fun y hy => by have := o3 y hy; omega)]
  simp only [beq_self_eq_true, cond_true]
  rw [f21_eq k (by omega)]
end Go.Proofs.Ytahdmfboidjkoaa.PM

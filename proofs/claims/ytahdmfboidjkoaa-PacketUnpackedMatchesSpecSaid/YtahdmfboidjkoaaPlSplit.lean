/- A long body divided into packets: the code and the reference answer alike. -/
import Derived.Test.YtahdmfboidjkoaaPlRead
import Derived.Test.YtahdmfboidjkoaaPlBytes
set_option linter.unusedSimpArgs false
set_option linter.unusedVariables false
namespace Go.Proofs.Ytahdmfboidjkoaa.PM
open Go Go.Proofs.Ytahdmfboidjkoaa.Bt Go.Proofs.Ytahdmfboidjkoaa.Crc
variable {R : Type}

abbrev Pkt := Int × (Bool × (Int × (Int × (List Int × Unit))))
theorem LIM56 : 1000000 ≤ LIM 56 := by decide
theorem or01 : bits .or .i64 0 1 = 1 := by decide
theorem or12 : bits .or .i64 1 2 = 3 := by decide
theorem or02 : bits .or .i64 0 2 = 2 := by decide
theorem ad01 : IntKind.i64.wrap (0 + 1) = 1 := by decide
theorem ad12 : IntKind.i64.wrap (1 + 2) = 3 := by decide
theorem ad02 : IntKind.i64.wrap (0 + 2) = 2 := by decide
theorem cond_app {α β : Type} (c : Bool) (f : α → β) (a b : α) : (bif c then f a else f b) = f (bif c then a else b) := by cases c <;> rfl

/-- Piece i of many. -/
def piece (s : Int) (c : Bool) (n : Int) (b : List Int) (m many i : Nat) : Pkt :=
  (s, c, (bif decide (i = 0) then 1 else 0) + (bif decide (i + 1 = many) then 2 else 0), Int.tmod (n + i) 16384, (b.take (min ((i + 1) * m) b.length)).drop (i * m), ())
theorem many_lt {L m i : Nat} (hm : 1 ≤ m) : i < (L + m - 1) / m ↔ i * m < L := by
  have := Nat.le_div_iff_mul_le (x := i + 1) (y := L + m - 1) (k := m) (by omega)
  have e : (i + 1) * m = i * m + m := by rw [Nat.add_mul, Nat.one_mul]
  rw [e] at this
  omega
theorem splitA (k : Nat) (hk : 0 < k) (x : List Pkt → Option R) (s : Int) (c : Bool) (n : Int) (hn : 0 ≤ n ∧ n ≤ 16383) (b : List Int) (hb : b.length ≤ 60000) (m many : Nat) (hm : 1 ≤ m ∧ m ≤ 1000) (hM : many = (b.length + m - 1) / m) (hM2 : many ≤ 2000) : ∀ (d f i : Nat), i + d = many → d < f →
    f25_1d k x s c n b (m : Int) (many : Int) (many : Int) f (i : Int) ((List.range i).map (piece s c n b m many)) = x ((List.range many).map (piece s c n b m many))
  | d, 0, i, _, h => absurd h (Nat.not_lt_zero _)
  | 0, f + 1, i, hi, _ => by
    have h1 : decide ((i : Int) < (many : Int)) = false := by simp only [decide_eq_false_iff_not]; omega
    simp only [f25_1d, f25_1b, h1, cond_false]
    rw [show i = many by omega]
  | d + 1, f + 1, i, hi, hf => by
    have h1 : decide ((i : Int) < (many : Int)) = true := by simp only [decide_eq_true_eq]; omega
    have hlt : i * m < b.length := (many_lt hm.1).1 (by omega)
    have e0 : (i + 1) * m = i * m + m := by rw [Nat.add_mul, Nat.one_mul]
    have w1 : IntKind.i64.wrap ((i : Int) * (m : Int)) = ((i * m : Nat) : Int) := by rw [← Int.natCast_mul, wraps_i64 _ (by omega) (by omega)]
    have w2 : IntKind.i64.wrap ((i : Int) + 1) = ((i + 1 : Nat) : Int) := by rw [wraps_i64 _ (by omega) (by omega)]; omega
    have w3 : IntKind.i64.wrap (((i + 1 : Nat) : Int) * (m : Int)) = (((i + 1) * m : Nat) : Int) := by rw [← Int.natCast_mul, wraps_i64 _ (by omega) (by omega)]
    have w4 : IntKind.i64.wrap (n + (i : Int)) = n + i := wraps_i64 _ (by omega) (by omega)
    have w5 : IntKind.i64.wrap ((many : Int) - 1) = (many : Int) - 1 := wraps_i64 _ (by omega) (by omega)
    have w6 : (if (b.length : Int) < (((i + 1) * m : Nat) : Int) then (b.length : Int) else (((i + 1) * m : Nat) : Int)) = ((min ((i + 1) * m) b.length : Nat) : Int) := by
      split
      · have : min ((i + 1) * m) b.length = b.length := by omega
        rw [this]
      · have : min ((i + 1) * m) b.length = (i + 1) * m := by omega
        rw [this]
    have c1 : decide ((0 : Int) ≤ ((i * m : Nat) : Int)) = true := by simp only [decide_eq_true_eq]; omega
    have c2 : decide (((i * m : Nat) : Int) ≤ ((min ((i + 1) * m) b.length : Nat) : Int)) = true := by simp only [decide_eq_true_eq]; omega
    have c3 : decide (((min ((i + 1) * m) b.length : Nat) : Int) ≤ (b.length : Int)) = true := by simp only [decide_eq_true_eq]; omega
    have q1 : ((i : Int) == 0) = decide (i = 0) := by
      by_cases h : i = 0
      · simp [h]
      · simp [h]
    have q2 : ((i : Int) == (many : Int) - 1) = decide (i + 1 = many) := by
      by_cases h : i + 1 = many
      · have : (i : Int) = (many : Int) - 1 := by omega
        simp [h, this]
      · have : ¬(i : Int) = (many : Int) - 1 := by omega
        simp [h, this]
    simp only [f25_1d, f25_1b, h1, w1, w2, w3, w4, w5, w6, c1, c2, c3, Bool.and_self, cond_true, Int.toNat_natCast]
    rw [f41_eq _ (by rw [List.length_drop, List.length_take]; omega) k hk]
    simp only [f25_1000019_def, f25_1000019d, f25_1000021_def, f25_1000021d, q1, q2]
    have hs : (List.range i).map (piece s c n b m many) ++ [piece s c n b m many i] = (List.range (i + 1)).map (piece s c n b m many) := by
      rw [List.range_succ, List.map_append]; rfl
    refine Eq.trans ?_ (splitA k hk x s c n hn b hb m many hm hM hM2 d f (i + 1) (by omega) (by omega))
    rw [← hs]
    have hq : ∀ z : Pkt, (List.map (piece s c n b m many) (List.range i)).length + [z].length ≤ LIM 56 := fun z => by
      have := LIM56
      simp; omega
    cases hz : decide (i = 0) <;> cases hw : decide (i + 1 = many) <;> simp only [cond_true, cond_false, or01, or12, or02, ad01, ad12, ad02] <;> rw [bif_le (hq _)] <;> simp only [piece, hz, hw, cond_true, cond_false] <;> rfl
theorem splitB (k : Nat) (hk : 0 < k) (x : List Pkt → Option R) (s : Int) (c : Bool) (n : Int) (hn : 0 ≤ n ∧ n ≤ 16383) (b : List Int) (hb : b.length ≤ 60000) (m many : Nat) (hm : 1 ≤ m ∧ m ≤ 1000) (hM : many = (b.length + m - 1) / m) (hM2 : many ≤ 2000) : ∀ (d f i : Nat), i + d = many → d < f →
    f26_1d k x s c n b (m : Int) f ((i * m : Nat) : Int) ((List.range i).map (piece s c n b m many)) = x ((List.range many).map (piece s c n b m many))
  | d, 0, i, _, h => absurd h (Nat.not_lt_zero _)
  | 0, f + 1, i, hi, _ => by
    have hn1 : ¬ i * m < b.length := fun h => absurd ((many_lt hm.1).2 h) (by omega)
    have h1 : decide (((i * m : Nat) : Int) < (b.length : Int)) = false := by simp only [decide_eq_false_iff_not]; omega
    simp only [f26_1d, f26_1b, h1, cond_false]
    rw [show i = many by omega]
  | d + 1, f + 1, i, hi, hf => by
    have hlt : i * m < b.length := (many_lt hm.1).1 (by omega)
    have h1 : decide (((i * m : Nat) : Int) < (b.length : Int)) = true := by simp only [decide_eq_true_eq]; omega
    have e0 : (i + 1) * m = i * m + m := by rw [Nat.add_mul, Nat.one_mul]
    have w1 : IntKind.i64.wrap (((i * m : Nat) : Int) + (m : Int)) = (((i + 1) * m : Nat) : Int) := by rw [wraps_i64 _ (by omega) (by omega)]; omega
    have w4 : IntKind.i64.wrap (n + (i : Int)) = n + i := wraps_i64 _ (by omega) (by omega)
    have w6 : (if (b.length : Int) < (((i + 1) * m : Nat) : Int) then (b.length : Int) else (((i + 1) * m : Nat) : Int)) = ((min ((i + 1) * m) b.length : Nat) : Int) := by
      split
      · have : min ((i + 1) * m) b.length = b.length := by omega
        rw [this]
      · have : min ((i + 1) * m) b.length = (i + 1) * m := by omega
        rw [this]
    have c1 : decide ((0 : Int) ≤ ((i * m : Nat) : Int)) = true := by simp only [decide_eq_true_eq]; omega
    have c2 : decide (((i * m : Nat) : Int) ≤ ((min ((i + 1) * m) b.length : Nat) : Int)) = true := by simp only [decide_eq_true_eq]; omega
    have c3 : decide (((min ((i + 1) * m) b.length : Nat) : Int) ≤ (b.length : Int)) = true := by simp only [decide_eq_true_eq]; omega
    have q1 : (((i * m : Nat) : Int) == 0) = decide (i = 0) := by
      by_cases h : i = 0
      · simp [h]
      · have : 0 < i * m := Nat.mul_pos (by omega) (by omega)
        have e : (((i * m : Nat) : Int) == 0) = false := beq_eq_false_iff_ne.2 (by omega)
        rw [e]; simp [h]
    have q2 : decide ((((i + 1) * m : Nat) : Int) ≥ (b.length : Int)) = decide (i + 1 = many) := by
      have := @many_lt b.length m (i + 1) hm.1
      rw [← hM] at this
      by_cases h : i + 1 = many
      · have : ¬ (i + 1) * m < b.length := fun g => by omega
        simp only [h, decide_true, decide_eq_true_eq]; rw [← h]; omega
      · have : (i + 1) * m < b.length := by omega
        simp only [h, decide_false, decide_eq_false_iff_not]; omega
    simp only [f26_1d, f26_1b, h1, w1, w6, c1, c2, c3, Bool.and_self, cond_true, Int.toNat_natCast, List.length_map, List.length_range, w4]
    rw [f41_eq _ (by rw [List.length_drop, List.length_take]; omega) k hk]
    simp only [f26_1000018_def, f26_1000018d, f26_1000020_def, f26_1000020d, q1, q2]
    have hs : (List.range i).map (piece s c n b m many) ++ [piece s c n b m many i] = (List.range (i + 1)).map (piece s c n b m many) := by
      rw [List.range_succ, List.map_append]; rfl
    refine Eq.trans ?_ (splitB k hk x s c n hn b hb m many hm hM hM2 d f (i + 1) (by omega) (by omega))
    rw [← hs]
    have hq : ∀ z : Pkt, i + [z].length ≤ LIM 56 := fun z => by
      have := LIM56
      simp; omega
    cases hz : decide (i = 0) <;> cases hw : decide (i + 1 = many) <;> simp only [cond_true, cond_false, or01, or12, or02, ad01, ad12, ad02] <;> rw [bif_le (hq _)] <;> simp only [piece, hz, hw, cond_true, cond_false] <;> rfl
/-- What is wrong, and the pieces. -/
def splitE (s n : Int) (b : List Int) (m : Int) : Int :=
  if chk s 0 n [0] ≠ 0 then chk s 0 n [0] else if b.length = 0 then 9 else if 60000 < b.length then 2 else if ¬(1 ≤ m ∧ m ≤ 1000) then 1 else if 2000 < (b.length + m.toNat - 1) / m.toNat then 2 else 0
def splitL (s : Int) (c : Bool) (n : Int) (b : List Int) (m : Int) : List Pkt :=
  if splitE s n b m ≠ 0 then [] else (List.range ((b.length + m.toNat - 1) / m.toNat)).map (piece s c n b m.toNat ((b.length + m.toNat - 1) / m.toNat))
theorem divs {L m : Nat} (hL : L ≤ 60000) (hm : 1 ≤ m ∧ m ≤ 1000) : IntKind.i64.wrap (Int.tdiv (IntKind.i64.wrap ((IntKind.i64.wrap ((L : Int) + (m : Int))) - 1)) (m : Int)) = (((L + m - 1) / m : Nat) : Int) := by
  rw [wraps_i64 ((L : Int) + (m : Int)) (by omega) (by omega), wraps_i64 ((L : Int) + (m : Int) - 1) (by omega) (by omega)]
  have e : (L : Int) + (m : Int) - 1 = ((L + m - 1 : Nat) : Int) := by omega
  have h := Nat.div_le_self (L + m - 1) m
  have h2 : ((L + m - 1 : Nat) : Int) / (m : Int) = (((L + m - 1) / m : Nat) : Int) := (Int.natCast_ediv _ _).symm
  rw [e, Int.tdiv_eq_ediv_of_nonneg (by omega), h2]
  generalize (L + m - 1) / m = z at *
  exact wraps_i64 _ (by omega) (by omega)
theorem f25_eq (s : Int) (c : Bool) (n : Int) (b : List Int) (m : Int) (k : Nat) (hk : 2010 < k) (hl : b.length < 4611686018427387904) (K : Int → List Pkt → Option R) : f25 k s c n b m K = K (splitE s n b m) (splitL s c n b m) := by
  rw [f25_def]
  obtain ⟨k, rfl⟩ : ∃ j, k = j + 1 := ⟨k - 1, by omega⟩
  simp only [f25d, f30_eq k (by omega), splitL, splitE, f66_eq k (by omega)]
  by_cases h1 : chk s 0 n [0] = 0
  · have hr := (chk_right h1).2.2.1
    have e1 : (chk s 0 n [0] != 0) = false := by rw [h1]; rfl
    rw [e1, cond_false]
    simp only [h1, ne_eq, not_true, if_false]
    by_cases h2 : b.length = 0
    · have e2 : ((b.length : Int) == 0) = true := by rw [h2]; rfl
      rw [e2, cond_true]; simp [h2]
    · have e2 : ((b.length : Int) == 0) = false := beq_eq_false_iff_ne.2 (by omega)
      rw [e2, cond_false]; simp only [h2, if_false]
      by_cases h3 : 60000 < b.length
      · have e3 : decide ((b.length : Int) > 60000) = true := by simp only [decide_eq_true_eq]; omega
        rw [e3, cond_true]; simp [h3]
      · have e3 : decide ((b.length : Int) > 60000) = false := by simp only [decide_eq_false_iff_not]; omega
        rw [e3, cond_false]; simp only [h3, if_false]
        by_cases h4 : 1 ≤ m ∧ m ≤ 1000
        · obtain ⟨q, rfl⟩ := Int.eq_ofNat_of_zero_le (show 0 ≤ m by omega)
          have e4 : (!(decide ((1 : Int) ≤ (q : Int)) && decide ((q : Int) ≤ 1000))) = false := by simp; omega
          have e5 : (!((q : Int) == 0)) = true := by simp; omega
          rw [e4, cond_false, e5, cond_true, divs (by omega) (by omega)]
          simp only [h4, and_self, not_true, if_false, Int.toNat_natCast]
          by_cases h5 : 2000 < (b.length + q - 1) / q
          · have e6 : decide ((((b.length + q - 1) / q : Nat) : Int) > 2000) = true := by simp only [decide_eq_true_eq]; omega
            rw [e6, cond_true]; simp [h5]
          · have e6 : decide ((((b.length + q - 1) / q : Nat) : Int) > 2000) = false := by simp only [decide_eq_false_iff_not]; omega
            rw [e6, cond_false, f25_1_def]
            simp only [h5, if_false, not_true, ne_eq]
            exact splitA k (by omega) (fun y => K 0 y) s c n hr b (by omega) q _ (by omega) rfl (by omega) _ k 0 (Nat.zero_add _) (by omega)
        · have e4 : (!(decide (1 ≤ m) && decide (m ≤ 1000))) = true := by simp; omega
          rw [e4, cond_true]; simp only [h4, not_false_eq_true, if_true]
          simp
  · have e1 : (chk s 0 n [0] != 0) = true := bne_iff_ne.2 h1
    rw [e1, cond_true]; simp [h1]
theorem f26_eq (s : Int) (c : Bool) (n : Int) (b : List Int) (m : Int) (k : Nat) (hk : 2010 < k) (hl : b.length < 4611686018427387904) (K : Int → List Pkt → Option R) : f26 k s c n b m K = K (splitE s n b m) (splitL s c n b m) := by
  rw [f26_def]
  obtain ⟨k, rfl⟩ : ∃ j, k = j + 1 := ⟨k - 1, by omega⟩
  simp only [f26d, f31_eq k (by omega), splitL, splitE, f69_eq k (by omega)]
  by_cases h1 : chk s 0 n [0] = 0
  · have hr := (chk_right h1).2.2.1
    have e1 : (chk s 0 n [0] != 0) = false := by rw [h1]; rfl
    rw [e1, cond_false]
    simp only [h1, ne_eq, not_true, if_false]
    by_cases h2 : b.length = 0
    · have e2 : ((b.length : Int) == 0) = true := by rw [h2]; rfl
      rw [e2, cond_true]; simp [h2]
    · have e2 : ((b.length : Int) == 0) = false := beq_eq_false_iff_ne.2 (by omega)
      rw [e2, cond_false]; simp only [h2, if_false]
      by_cases h3 : 60000 < b.length
      · have e3 : decide ((b.length : Int) > 60000) = true := by simp only [decide_eq_true_eq]; omega
        rw [e3, cond_true]; simp [h3]
      · have e3 : decide ((b.length : Int) > 60000) = false := by simp only [decide_eq_false_iff_not]; omega
        rw [e3, cond_false]; simp only [h3, if_false]
        by_cases h4 : 1 ≤ m ∧ m ≤ 1000
        · obtain ⟨q, rfl⟩ := Int.eq_ofNat_of_zero_le (show 0 ≤ m by omega)
          have e4 : (!(decide ((1 : Int) ≤ (q : Int)) && decide ((q : Int) ≤ 1000))) = false := by simp; omega
          have e5 : (!((q : Int) == 0)) = true := by simp; omega
          rw [e4, cond_false, e5, cond_true, divs (by omega) (by omega)]
          simp only [h4, and_self, not_true, if_false, Int.toNat_natCast]
          by_cases h5 : 2000 < (b.length + q - 1) / q
          · have e6 : decide ((((b.length + q - 1) / q : Nat) : Int) > 2000) = true := by simp only [decide_eq_true_eq]; omega
            rw [e6, cond_true]; simp [h5]
          · have e6 : decide ((((b.length + q - 1) / q : Nat) : Int) > 2000) = false := by simp only [decide_eq_false_iff_not]; omega
            rw [e6, cond_false, f26_1_def]
            simp only [h5, if_false, not_true, ne_eq]
            have := splitB k (by omega) (fun y => K 0 y) s c n hr b (by omega) q _ (by omega) rfl (by omega) _ k 0 (Nat.zero_add _) (by omega)
            rw [Nat.zero_mul] at this
            exact this
        · have e4 : (!(decide (1 ≤ m) && decide (m ≤ 1000))) = true := by simp; omega
          rw [e4, cond_true]; simp only [h4, not_false_eq_true, if_true]
          simp
  · have e1 : (chk s 0 n [0] != 0) = true := bne_iff_ne.2 h1
    rw [e1, cond_true]; simp [h1]

/-- Equal lists of packets are told equal. -/
theorem same_loop (k : Nat) (K : Bool → Option R) (l : List Pkt) (hl : l.length < 4611686018427387904) (hb : ∀ y ∈ l, y.2.2.2.2.1.length < 4611686018427387904 ∧ y.2.2.2.2.1.length + 3 < k) : ∀ (d f i : Nat), i + d = l.length → d < f →
    f27_0d k K (K true) l l (l.length : Int) f (i : Int) = K true
  | d, 0, i, _, h => absurd h (Nat.not_lt_zero _)
  | 0, f + 1, i, hi, _ => by
    have h1 : decide ((i : Int) < (l.length : Int)) = false := by simp only [decide_eq_false_iff_not]; omega
    simp only [f27_0d, f27_0b, h1, cond_false]
  | d + 1, f + 1, i, hi, hf => by
    have h1 : decide ((i : Int) < (l.length : Int)) = true := by simp only [decide_eq_true_eq]; omega
    have h0 : decide ((0 : Int) ≤ (i : Int)) = true := by simp
    have hli : i < l.length := by omega
    have w2 : IntKind.i64.wrap ((i : Int) + 1) = ((i + 1 : Nat) : Int) := by rw [wraps_i64 _ (by omega) (by omega)]; omega
    have hg : ∀ z : Pkt, l.getD i z = l[i] := fun z => by rw [List.getD_eq_getElem?_getD, List.getElem?_eq_getElem hli]; rfl
    have hh := hb _ (List.getElem_mem hli)
    simp only [f27_0d, f27_0b, h1, h0, cond_true, Bool.and_self, Int.toNat_natCast, hg, w2]
    rw [f24_eq k _ _ _ _ _ _ _ _ _ _ hh.1 hh.2]
    simp only [and_self, decide_true, Bool.not_true, cond_false]
    exact same_loop k K l hl hb d f (i + 1) (by omega) (by omega)
theorem f27_eq (l : List Pkt) (hl : l.length < 4611686018427387904) (k : Nat) (hk : l.length + 1 < k) (hb : ∀ y ∈ l, y.2.2.2.2.1.length < 4611686018427387904 ∧ y.2.2.2.2.1.length + 4 < k) (K : Bool → Option R) : f27 k l l K = K true := by
  rw [f27_def]
  obtain ⟨k, rfl⟩ : ∃ j, k = j + 1 := ⟨k - 1, by omega⟩
  simp only [f27d, bne_self_eq_false, cond_false, f27_0_def]
  exact same_loop k K l hl (fun y hy => ⟨(hb y hy).1, by have := (hb y hy).2; omega⟩) l.length k 0 (by omega) (by omega)
theorem f5_eq (s : Int) (c : Bool) (n : Int) (b : List Int) (m : Int) (hl : b.length ≤ 140737488355328) (k : Nat) (hk : b.length + 2030 < k) (K : Bool → Option R) : f5 k s c n b m K = K true := by
  rw [f5_def]
  obtain ⟨k, rfl⟩ : ∃ j, k = j + 1 := ⟨k - 1, by omega⟩
  simp only [f5d]
  rw [f25_eq s c n b m k (by omega) (by omega), f26_eq s c n b m k (by omega) (by omega)]
  simp only [beq_self_eq_true, cond_true]
  have hL : (splitL s c n b m).length ≤ 2000 := by
    unfold splitL
    split
    · simp
    · rename_i h
      simp only [List.length_map, List.length_range]
      unfold splitE at h
      repeat' split at h
      all_goals first | omega | (exfalso; simp at h; done) | (exfalso; exact h (by assumption))
  have hP : ∀ y ∈ splitL s c n b m, y.2.2.2.2.1.length ≤ b.length := by
    unfold splitL
    split
    · intro y hy; cases hy
    · intro y hy
      obtain ⟨i, _, rfl⟩ := List.mem_map.1 hy
      simp only [piece, List.length_drop, List.length_take]
      omega
  rw [f27_eq _ (by omega) k (by omega) (fun y hy => by have := hP y hy; omega)]
  simp only [beq_self_eq_true, cond_true]
  rw [f21_eq k (by omega)]
end Go.Proofs.Ytahdmfboidjkoaa.PM

/- Plain laws of signed commands: numbers as bytes, signs. -/
import Derived.Test.YtadkplikobhckaaPlGrounds
set_option linter.unusedSimpArgs false
set_option linter.unusedVariables false
namespace Go.Proofs.Ytadkplikobhckaa.PM
open Go Go.Proofs.Ytadkplikobhckaa.Bt
variable {R : Type}

theorem getD_in {α : Type} {l : List α} {i : Nat} {d : α} (h : i < l.length) : l.getD i d = l[i] := by rw [List.getD_eq_getElem?_getD, List.getElem?_eq_getElem h]; rfl
def B (l : List Int) : Prop := ∀ x ∈ l, 0 ≤ x ∧ x < 256
theorem wrap_u8_eq (n : Int) : IntKind.u8.wrap n = n % 256 := by rw [IntKind.wrap_u8]
/-- The last d bytes of a number, the highest one first. -/
def eightF : Nat → Int → List Int
  | 0, _ => []
  | d + 1, n => (n / 2 ^ (8 * d) % 256) :: eightF d n
theorem eightF_B : ∀ (d : Nat) (n : Int), B (eightF d n)
  | 0, _ => fun x hx => by cases hx
  | d + 1, n => fun x hx => by
    simp only [eightF, List.mem_cons] at hx
    rcases hx with rfl | hx
    · omega
    · exact eightF_B d n x hx
theorem eightF_len : ∀ (d : Nat) (n : Int), (eightF d n).length = d
  | 0, _ => rfl
  | d + 1, n => by simp [eightF, eightF_len d n]
theorem f82_loop (k : Nat) (x0 : List Int → Option R) (n : Int) : ∀ (d f : Nat) (acc : List Int), d < f → acc.length + d ≤ 8 → f82_0d k x0 n f (8 * (d : Int) - 8) acc = x0 (acc ++ eightF d n) := by
  intro d
  induction d with
  | zero =>
    intro f acc hf ha
    obtain ⟨f, rfl⟩ := succ_of hf
    have h : decide (8 * ((0 : Nat) : Int) - 8 ≥ 0) = false := by decide
    simp only [f82_0d, f82_0b, h, cond_false, eightF, List.append_nil]
  | succ d ih =>
    intro f acc hf ha
    obtain ⟨f, rfl⟩ := succ_of hf
    have h1 : decide (8 * ((d + 1 : Nat) : Int) - 8 ≥ 0) = true := by simp only [decide_eq_true_eq]; omega
    have h2 : decide (0 ≤ 8 * ((d + 1 : Nat) : Int) - 8) = true := by simp only [decide_eq_true_eq]; omega
    have hv : (8 * ((d + 1 : Nat) : Int) - 8).toNat = 8 * d := by omega
    have hm : min (8 * d) 64 = 8 * d := by omega
    have hw : IntKind.i64.wrap (8 * ((d + 1 : Nat) : Int) - 8 - 8) = 8 * (d : Int) - 8 := by rw [wi (by omega) (by omega)]; omega
    have hd : d ≤ 7 := by omega
    have hL : ∀ x : Int, decide (acc.length + ([x] : List Int).length ≤ LIM 1) = true := fun x => by rw [LIM1]; simp only [decide_eq_true_eq, List.length_singleton]; omega
    have hp : (0 : Int) ≤ 2 ^ (8 * d) := Int.pow_nonneg (by decide)
    simp only [f82_0d, f82_0b, h1, h2, cond_true, hv, hm, hw, hL, wrap_u8_eq, Int.fdiv_eq_ediv_of_nonneg _ hp]
    rw [ih f (acc ++ [n / 2 ^ (8 * d) % 256]) (by omega) (by rw [List.length_append, List.length_singleton]; omega), List.append_assoc]
    rfl
/-- f82 writes a number as eight bytes, the highest one first. -/
theorem f82_eq {k : Nat} (hk : 9 < k) (n : Int) (K : List Int → Option R) : f82 k n K = K (eightF 8 n) := by
  obtain ⟨j, rfl⟩ := succ_of (show 0 < k by omega)
  have h := f82_loop (R := R) j (fun y => K y) n 8 j [] (by omega) (by decide)
  rw [f82_def]
  simp only [f82d]
  rw [f82_0_def]
  exact h
/-- The sum that f83 draws from the bytes, one after another. -/
def fnv : List Int → Int → Int
  | [], a => a
  | b :: l, a => fnv l (IntKind.u64.wrap (bits .xor .u64 a (IntKind.u64.wrap b) * 1099511628211))
theorem f83_loop (k : Nat) (x0 : Int → Option R) (l : List Int) (hl : l.length < 2 ^ 40) : ∀ (d i f : Nat) (a : Int), i + d = l.length → d < f → f83_0d k x0 (l.length : Int) l f a (i : Int) = x0 (fnv (l.drop i) a) := by
  intro d
  induction d with
  | zero =>
    intro i f a hi hf
    obtain ⟨f, rfl⟩ := succ_of hf
    have h : decide ((i : Int) < (l.length : Int)) = false := by simp only [decide_eq_false_iff_not]; omega
    have hd : l.drop i = [] := List.drop_eq_nil_of_le (by omega)
    simp only [f83_0d, f83_0b, h, cond_false, hd, fnv]
  | succ d ih =>
    intro i f a hi hf
    obtain ⟨f, rfl⟩ := succ_of (show 0 < f by omega)
    have h1 : decide ((i : Int) < (l.length : Int)) = true := by simp only [decide_eq_true_eq]; omega
    have h2 : decide ((0 : Int) ≤ (i : Int)) = true := by simp only [decide_eq_true_eq]; omega
    have hlt : i < l.length := by omega
    have hw : IntKind.i64.wrap ((i : Int) + 1) = ((i + 1 : Nat) : Int) := by rw [wi (by omega) (by omega)]; rfl
    have hd : l.drop i = l[i] :: l.drop (i + 1) := List.drop_eq_getElem_cons hlt
    simp only [f83_0d, f83_0b, h1, h2, Bool.and_self, cond_true, Int.toNat_natCast, getD_in hlt, hw]
    rw [ih (i + 1) f _ (by omega) (by omega), hd]
    rfl
theorem cat_len (k : Nat) (x : Int → Option R) (ll : List (List Int)) (hn : ll.length < 4611686018427387904) (hf : ll.flatten.length ≤ 140737488355328) : ∀ (d m i : Nat), i + d = ll.length → d < m →
    f96_0d k x ll ll (ll.length : Int) m (((ll.take i).flatten.length : Nat) : Int) (i : Int) = x (ll.flatten.length : Nat)
  | d, 0, i, _, h => absurd h (Nat.not_lt_zero _)
  | 0, m + 1, i, hi, _ => by
    have h1 : decide ((i : Int) < (ll.length : Int)) = false := by simp; omega
    simp only [f96_0d, f96_0b, h1, cond_false]
    rw [List.take_of_length_le (by omega)]
  | d + 1, m + 1, i, hi, hm => by
    have h1 : decide ((i : Int) < (ll.length : Int)) = true := by simp; omega
    have h0 : decide ((0 : Int) ≤ (i : Int)) = true := by simp
    have hli : i < ll.length := by omega
    have hw : IntKind.i64.wrap ((i : Int) + 1) = ((i + 1 : Nat) : Int) := by rw [wi (by omega) (by omega)]; omega
    have hg : ll.getD (Int.toNat (i : Int)) [] = ll[i] := by rw [Int.toNat_natCast, List.getD_eq_getElem?_getD, List.getElem?_eq_getElem hli]; rfl
    have ht : (ll.take (i + 1)).flatten.length = (ll.take i).flatten.length + ll[i].length := by
      rw [List.take_succ_eq_append_getElem hli, List.flatten_append, List.length_append]; simp
    have hle : (ll.take (i + 1)).flatten.length ≤ ll.flatten.length := by
      conv => rhs; rw [← List.take_append_drop (i + 1) ll, List.flatten_append, List.length_append]
      omega
    have hs : IntKind.i64.wrap ((((ll.take i).flatten.length : Nat) : Int) + (ll[i].length : Int)) = (((ll.take (i + 1)).flatten.length : Nat) : Int) := by
      rw [wi (by omega) (by omega)]; omega
    have hneg : decide ((((ll.take (i + 1)).flatten.length : Nat) : Int) < 0) = false := by simp only [decide_eq_false_iff_not]; omega
    simp only [f96_0d, f96_0b, h1, h0, cond_true, Bool.and_self, hg, hs, hw, f96_1000007_def, f96_1000007d, hneg, cond_false]
    exact cat_len k x ll hn hf d m (i + 1) (by omega) (by omega)
theorem cat_all (k : Nat) (x : List Int → Option R) (ll : List (List Int)) (hn : ll.length < 4611686018427387904) (hf : ll.flatten.length ≤ 140737488355328) : ∀ (d m i : Nat), i + d = ll.length → d < m →
    f96_2d k x ll (ll.length : Int) m (i : Int) (ll.take i).flatten = x ll.flatten
  | d, 0, i, _, h => absurd h (Nat.not_lt_zero _)
  | 0, m + 1, i, hi, _ => by
    have h1 : decide ((i : Int) < (ll.length : Int)) = false := by simp; omega
    simp only [f96_2d, f96_2b, h1, cond_false]
    rw [List.take_of_length_le (by omega)]
  | d + 1, m + 1, i, hi, hm => by
    have h1 : decide ((i : Int) < (ll.length : Int)) = true := by simp; omega
    have h0 : decide ((0 : Int) ≤ (i : Int)) = true := by simp
    have hli : i < ll.length := by omega
    have hw : IntKind.i64.wrap ((i : Int) + 1) = ((i + 1 : Nat) : Int) := by rw [wi (by omega) (by omega)]; omega
    have hg : ll.getD (Int.toNat (i : Int)) [] = ll[i] := by rw [Int.toNat_natCast, List.getD_eq_getElem?_getD, List.getElem?_eq_getElem hli]; rfl
    have ht : (ll.take (i + 1)).flatten = (ll.take i).flatten ++ ll[i] := by
      rw [List.take_succ_eq_append_getElem hli, List.flatten_append]; simp
    have hle : (ll.take (i + 1)).flatten.length ≤ ll.flatten.length := by
      conv => rhs; rw [← List.take_append_drop (i + 1) ll, List.flatten_append, List.length_append]
      omega
    rw [ht, List.length_append] at hle
    have hL : decide ((ll.take i).flatten.length + ll[i].length ≤ LIM 1) = true := by rw [LIM1]; simp only [decide_eq_true_eq]; omega
    simp only [f96_2d, f96_2b, h1, h0, cond_true, Bool.and_self, hg, hw, hL]
    rw [← ht]
    exact cat_all k x ll hn hf d m (i + 1) (by omega) (by omega)
theorem f101_eq (k : Nat) (hk : 0 < k) (n : Nat) (hn : n ≤ 140737488355328) (K : List Int → Option R) : f101 k (n : Int) K = K [] := by
  rw [f101_def]
  obtain ⟨k, rfl⟩ : ∃ j, k = j + 1 := ⟨k - 1, by omega⟩
  have h1 : decide ((n : Int) < 0) = false := by simp only [decide_eq_false_iff_not]; omega
  have hw : IntKind.i64.wrap ((n : Int) - 0) = n := by rw [wi (by omega) (by omega)]; omega
  simp only [f101d, f101_1000002_def, f101_1000002d, h1, cond_false, f101_1000005_def, f101_1000005d, hw]
  by_cases h : 0 < n
  · have h2 : decide ((n : Int) > 0) = true := by simp; omega
    have h3 : decide ((0 : Int) ≤ (n : Int)) = true := by simp
    have h4 : decide ((List.replicate (Int.toNat (n : Int)) (0 : Int)).length ≤ LIM 1) = true := by rw [LIM1]; simp; omega
    have h5 : decide ((0 : Int) ≤ ((List.replicate (Int.toNat (n : Int)) (0 : Int)).length : Int)) = true := by simp
    simp only [h2, h3, h4, h5, cond_true, Bool.and_self, List.take_zero]
  · have h2 : decide ((n : Int) > 0) = false := by simp; omega
    simp only [h2, cond_false]
theorem f96_eq (ll : List (List Int)) (hn : ll.length < 4611686018427387904) (hf : ll.flatten.length ≤ 140737488355328) (k : Nat) (hk : ll.length + 2 < k) (K : List Int → Option R) : f96 k ll K = K ll.flatten := by
  rw [f96_def]
  obtain ⟨k, rfl⟩ : ∃ j, k = j + 1 := ⟨k - 1, by omega⟩
  simp only [f96d, f96_0_def, f96_2_def]
  have h1 := cat_len (R := R) k (fun y0_0_1 => f101 k y0_0_1 fun r20481_0 => f96_2d k (fun y2_2_0 => K y2_2_0) ll (ll.length : Int) k 0 r20481_0) ll hn hf ll.length k 0 (by omega) (by omega)
  refine Eq.trans h1 ?_
  rw [f101_eq k (by omega) _ hf]
  exact cat_all k K ll hn hf ll.length k 0 (by omega) (by omega)
/-- The sign over the bytes l with the key c. -/
def sgn (c : Int) (l : List Int) : Int := fnv (eightF 8 (IntKind.u64.wrap c) ++ (l ++ eightF 8 (IntKind.u64.wrap c))) 14695981039346656037
theorem f83_eq {k : Nat} (c : Int) (l : List Int) (hl : l.length ≤ 1000) (hk : l.length + 30 < k) (K : Int → Option R) : f83 k c l K = K (sgn c l) := by
  obtain ⟨j, rfl⟩ := succ_of (show 0 < k by omega)
  have e8 := eightF_len 8 (IntKind.u64.wrap c)
  have hfl : ([eightF 8 (IntKind.u64.wrap c), l, eightF 8 (IntKind.u64.wrap c)] : List (List Int)).flatten = eightF 8 (IntKind.u64.wrap c) ++ (l ++ eightF 8 (IntKind.u64.wrap c)) := by simp
  have hle : (eightF 8 (IntKind.u64.wrap c) ++ (l ++ eightF 8 (IntKind.u64.wrap c))).length = l.length + 16 := by simp only [List.length_append, e8]; omega
  rw [f83_def]
  simp only [f83d]
  rw [f82_eq (by omega), f96_eq _ (by simp) (by rw [hfl, hle]; omega) j (by simp only [List.length_cons, List.length_nil]; omega), hfl, f83_0_def]
  have h := f83_loop (R := R) j (fun y => K y) (eightF 8 (IntKind.u64.wrap c) ++ (l ++ eightF 8 (IntKind.u64.wrap c))) (by rw [hle]; omega) (l.length + 16) 0 j 14695981039346656037 (by omega) (by omega)
  exact h
theorem or_byte (a b : Nat) (hb : b < 256) : a * 256 ||| b = a * 256 + b := by
  have h := Nat.two_pow_add_eq_or_of_lt (i := 8) (b := b) (by omega) a
  rw [show a * 256 = 2 ^ 8 * a by omega]
  exact h.symm
theorem or_step (a b : Int) (ha : 0 ≤ a) (hb0 : 0 ≤ b) (hb : b < 256) : bits .or .u64 (IntKind.u64.wrap (a * 2 ^ 8)) (IntKind.u64.wrap b) = IntKind.u64.wrap (a * 256) + b := by
  have hx : IntKind.u64.wrap (a * 2 ^ 8) = (((a % 2 ^ 56).toNat * 256 : Nat) : Int) := by rw [IntKind.wrap_u64]; omega
  have hx' : IntKind.u64.wrap (a * 256) = (((a % 2 ^ 56).toNat * 256 : Nat) : Int) := by rw [IntKind.wrap_u64]; omega
  have hy : IntKind.u64.wrap b = ((b.toNat : Nat) : Int) := by rw [wraps_u64 _ hb0 (by omega)]; omega
  rw [hx', hx, hy, (bits_nat .u64 64 (by decide) wraps_u64 _ _ (by omega) (by omega)).2, or_byte _ _ (by omega)]
  omega
/-- The number that bytes tell, the highest one first, from a on. -/
def numF : List Int → Int → Int
  | [], a => a
  | b :: l, a => numF l (IntKind.u64.wrap (a * 256) + b)
theorem f97_loop (k : Nat) (x0 : Int → Option R) (l : List Int) (hl : l.length < 2 ^ 40) (hB : B l) : ∀ (d i f : Nat) (a : Int), 0 ≤ a → i + d = l.length → d < f → f97_0d k x0 l (l.length : Int) f a (i : Int) = x0 (numF (l.drop i) a) := by
  intro d
  induction d with
  | zero =>
    intro i f a h0 hi hf
    obtain ⟨f, rfl⟩ := succ_of hf
    have h : decide ((i : Int) < (l.length : Int)) = false := by simp only [decide_eq_false_iff_not]; omega
    have hd : l.drop i = [] := List.drop_eq_nil_of_le (by omega)
    simp only [f97_0d, f97_0b, h, cond_false, hd, numF]
  | succ d ih =>
    intro i f a h0 hi hf
    obtain ⟨f, rfl⟩ := succ_of (show 0 < f by omega)
    have h1 : decide ((i : Int) < (l.length : Int)) = true := by simp only [decide_eq_true_eq]; omega
    have h2 : decide ((0 : Int) ≤ (i : Int)) = true := by simp only [decide_eq_true_eq]; omega
    have hlt : i < l.length := by omega
    have hb := hB _ (List.getElem_mem hlt)
    have hw : IntKind.i64.wrap ((i : Int) + 1) = ((i + 1 : Nat) : Int) := by rw [wi (by omega) (by omega)]; rfl
    have hd : l.drop i = l[i] :: l.drop (i + 1) := List.drop_eq_getElem_cons hlt
    have hu : (0 : Int) ≤ IntKind.u64.wrap (a * 256) := by rw [IntKind.wrap_u64]; omega
    simp only [f97_0d, f97_0b, h1, h2, Bool.and_self, cond_true, Int.toNat_natCast, getD_in hlt, hw, or_step a l[i] h0 hb.1 hb.2]
    rw [ih (i + 1) f _ (by omega) (by omega) (by omega), hd]
    rfl
/-- f97 reads the first eight bytes as a number. -/
theorem f97_eq {k : Nat} (hk : 9 < k) (l : List Int) (h8 : 8 ≤ l.length) (hB : B l) (K : Int → Option R) : f97 k l K = K (numF (l.take 8) 0) := by
  obtain ⟨j, rfl⟩ := succ_of (show 0 < k by omega)
  have h1 : decide ((8 : Int) ≤ (l.length : Int)) = true := by simp only [decide_eq_true_eq]; omega
  have ht : (l.take 8).length = 8 := by rw [List.length_take]; omega
  rw [f97_def]
  simp only [f97d, h1, cond_true]
  rw [f97_0_def]
  exact f97_loop j (fun y => K y) (l.take 8) (by omega) (fun x hx => hB x (List.mem_of_mem_take hx)) 8 0 j 0 (by decide) (by omega) (by omega)
theorem num_eight (n : Int) (h0 : 0 ≤ n) (h1 : n < 2 ^ 64) : numF (eightF 8 n) 0 = n := by
  simp only [eightF, numF, IntKind.wrap_u64]
  omega
theorem f85_loop (k : Nat) (K : Int → Option R) (x0 : Option R) (l : List Int) (v : Int) (hl : l.length < 2 ^ 40) (P : Bool → Option R) (hK : ∀ i : Int, 0 ≤ i → K i = P true) (hx : x0 = P false) : ∀ (d i f : Nat), i + d = l.length → d < f → f85_0d k K x0 l v (l.length : Int) f (i : Int) = P ((l.drop i).contains v) := by
  intro d
  induction d with
  | zero =>
    intro i f hi hf
    obtain ⟨f, rfl⟩ := succ_of hf
    have h : decide ((i : Int) < (l.length : Int)) = false := by simp only [decide_eq_false_iff_not]; omega
    have hd : l.drop i = [] := List.drop_eq_nil_of_le (by omega)
    simp only [f85_0d, f85_0b, h, cond_false, hd, hx, List.contains_nil]
  | succ d ih =>
    intro i f hi hf
    obtain ⟨f, rfl⟩ := succ_of (show 0 < f by omega)
    have h1 : decide ((i : Int) < (l.length : Int)) = true := by simp only [decide_eq_true_eq]; omega
    have h2 : decide ((0 : Int) ≤ (i : Int)) = true := by simp only [decide_eq_true_eq]; omega
    have hlt : i < l.length := by omega
    have hw : IntKind.i64.wrap ((i : Int) + 1) = ((i + 1 : Nat) : Int) := by rw [wi (by omega) (by omega)]; rfl
    have hd : l.drop i = l[i] :: l.drop (i + 1) := List.drop_eq_getElem_cons hlt
    simp only [f85_0d, f85_0b, h1, h2, Bool.and_self, cond_true, Int.toNat_natCast, getD_in hlt, hw]
    rw [ih (i + 1) f (by omega) (by omega), hd, List.contains_cons]
    cases hv : (v == l[i]) with
    | true => simp only [cond_true, Bool.true_or]; exact hK _ (by omega)
    | false => simp only [cond_false, Bool.false_or]
theorem f51_eq {k : Nat} (l : List Int) (hl : l.length < 2 ^ 40) (hk : l.length + 3 < k) (v : Int) (K : Bool → Option R) : f51 k l v K = K (l.contains v) := by
  obtain ⟨j, rfl⟩ := succ_of (show 0 < k by omega)
  obtain ⟨m, rfl⟩ := succ_of (show 0 < j by omega)
  rw [f51_def]
  simp only [f51d]
  rw [f85_def]
  simp only [f85d]
  rw [f85_0_def]
  exact f85_loop m _ _ l v hl K (fun i h => by simp only [ge_iff_le, h, decide_true]) (by rfl) l.length 0 m (by omega) (by omega)
/-- Drop the head while it is the least one not yet seen. -/
def runF : Int → List Int → Int × List Int
  | n, [] => (n, [])
  | n, x :: l => bif x == n then runF (IntKind.i64.wrap (n + 1)) l else (n, x :: l)
theorem f98_loop (k : Nat) (x0 : Int → List Int → Option R) (a : Int) (b : List Int) (c e : Int) : ∀ (l : List Int) (f : Nat) (n : Int), l.length < f → f98_0d k x0 a b c e f n l = x0 (runF n l).1 (runF n l).2 := by
  intro l
  induction l with
  | nil =>
    intro f n hf
    obtain ⟨f, rfl⟩ := succ_of hf
    rfl
  | cons x l ih =>
    intro f n hf
    obtain ⟨f, rfl⟩ := succ_of hf
    have hl : (x :: l).length = l.length + 1 := rfl
    have h1 : (decide (((x :: l).length : Int) > (0 : Int)) == true) = true := by rw [hl]; simp only [beq_iff_eq, decide_eq_true_eq]; omega
    have h2 : decide ((0 : Int) < ((x :: l).length : Int)) = true := by rw [hl]; simp only [decide_eq_true_eq]; omega
    have h3 : decide ((1 : Int) ≤ ((x :: l).length : Int)) = true := by rw [hl]; simp only [decide_eq_true_eq]; omega
    have h4 : (x :: l).getD 0 (0 : Int) = x := rfl
    have h5 : ((x :: l).drop 1).take ((x :: l).length - 1) = l := by rw [hl]; simp
    simp only [f98_0d, f98_0b, h1, h2, h3, h4, h5, cond_true, runF]
    cases hx : (x == n) with
    | true => simp only [cond_true]; exact ih f _ (by omega)
    | false => simp only [cond_false]; try rfl
theorem runF_len : ∀ (l : List Int) (n : Int), (runF n l).2.length ≤ l.length
  | [], _ => Nat.le_refl _
  | x :: l, n => by
    have h := runF_len l (IntKind.i64.wrap (n + 1))
    simp only [runF]
    cases x == n with
    | true => simp only [cond_true, List.length_cons]; omega
    | false => simp only [cond_false]; exact Nat.le_refl _
theorem f86_eq {k : Nat} (hk : 0 < k) (l : List Int) (hl : l.length < 1000000) (K : List Int → Option R) : f86 k l K = K l := by
  obtain ⟨j, rfl⟩ := succ_of hk
  have h : decide (l.length ≤ LIM 8) = true := by rw [decide_eq_true_eq, show LIM 8 = 17592186044416 by decide]; omega
  rw [f86_def]
  simp only [f86d, h, cond_true]
theorem f98_eq {k : Nat} (a n : Int) (l : List Int) (v : Int) (hl : l.length < 100000) (hk : l.length + 4 < k) (K : Int → Int → List Int → Option R) : f98 k a n l v K = K a (runF n (sortI (l ++ [v]))).1 (runF n (sortI (l ++ [v]))).2 := by
  obtain ⟨j, rfl⟩ := succ_of (show 0 < k by omega)
  obtain ⟨m, rfl⟩ := succ_of (show 0 < j by omega)
  have hlen : (l ++ [v]).length = l.length + 1 := by simp
  have hs : (sortI (l ++ [v])).length = l.length + 1 := by rw [sortI_len, hlen]
  have h1 : decide (l.length + ([v] : List Int).length ≤ LIM 8) = true := by rw [decide_eq_true_eq, show LIM 8 = 17592186044416 by decide, List.length_singleton]; omega
  have h2 : sortIOk (l ++ [v]) = true := by simp only [sortIOk, hlen, decide_eq_true_eq]; omega
  have h3 : decide ((sortI (l ++ [v])).length = (l ++ [v]).length) = true := by rw [hs, hlen]; simp
  have hr := runF_len (sortI (l ++ [v])) n
  rw [f98_def]
  simp only [f98d]
  rw [f86_eq (by omega) l (by omega)]
  simp only [h1, cond_true]
  rw [f102_def]
  simp only [f102d, h2, cond_true, h3, Bool.and_true]
  rw [f98_0_def, f98_loop _ _ _ _ _ _ _ _ _ (by rw [hs]; omega), f86_eq (by omega) _ (by omega)]
end Go.Proofs.Ytadkplikobhckaa.PM

/- Plain laws of signed commands: the document's side. -/
import Derived.Test.YtadkplikobhckaaPlTwice
set_option linter.unusedSimpArgs false
set_option linter.unusedVariables false
namespace Go.Proofs.Ytadkplikobhckaa.PM
open Go Go.Proofs.Ytadkplikobhckaa.Bt
variable {R : Type}

theorem eightF_get (n : Int) : ∀ (d i : Nat), i < d → (eightF d n)[i]? = some (n / 2 ^ (8 * (d - 1 - i)) % 256)
  | 0, i, h => absurd h (Nat.not_lt_zero _)
  | d + 1, 0, h => by simp [eightF]
  | d + 1, i + 1, h => by
    simp only [eightF, List.getElem?_cons_succ]
    rw [eightF_get n d i (by omega), show d + 1 - 1 - (i + 1) = d - 1 - i by omega]
theorem f88_loop (k : Nat) (x0 : List Int → Option R) (n : Int) : ∀ (d i f : Nat), i + d = 8 → d < f → f88_0d k x0 n 8 f (i : Int) ((eightF 8 n).take i ++ List.replicate d 0) = x0 (eightF 8 n) := by
  intro d
  induction d with
  | zero =>
    intro i f hi hf
    obtain ⟨f, rfl⟩ := succ_of hf
    have h : decide ((i : Int) < 8) = false := by simp only [decide_eq_false_iff_not]; omega
    simp only [f88_0d, f88_0b, h, cond_false, List.replicate_zero, List.append_nil]
    rw [List.take_of_length_le (by rw [eightF_len]; omega)]
  | succ d ih =>
    intro i f hi hf
    obtain ⟨f, rfl⟩ := succ_of (show 0 < f by omega)
    have hlt : ((eightF 8 n).take i).length = i := by rw [List.length_take, eightF_len]; omega
    have hlen : ((eightF 8 n).take i ++ List.replicate (d + 1) (0 : Int)).length = 8 := by rw [List.length_append, hlt, List.length_replicate]; omega
    have w1 : IntKind.i64.wrap (8 * (i : Int)) = 8 * (i : Int) := wi (by omega) (by omega)
    have w2 : IntKind.i64.wrap (56 - 8 * (i : Int)) = 56 - 8 * (i : Int) := wi (by omega) (by omega)
    have w3 : IntKind.i64.wrap ((i : Int) + 1) = ((i + 1 : Nat) : Int) := by rw [wi (by omega) (by omega)]; rfl
    have h1 : decide ((i : Int) < 8) = true := by simp only [decide_eq_true_eq]; omega
    have h2 : decide ((0 : Int) ≤ 56 - 8 * (i : Int)) = true := by simp only [decide_eq_true_eq]; omega
    have h3 : decide ((0 : Int) ≤ (i : Int)) = true := by simp only [decide_eq_true_eq]; omega
    have h4 : decide ((i : Int) < (((eightF 8 n).take i ++ List.replicate (d + 1) (0 : Int)).length : Int)) = true := by rw [hlen]; simp only [decide_eq_true_eq]; omega
    have hv : (56 - 8 * (i : Int)).toNat = 8 * (8 - 1 - i) := by omega
    have hm : min (8 * (8 - 1 - i)) 64 = 8 * (8 - 1 - i) := by omega
    have hp : (0 : Int) ≤ 2 ^ (8 * (8 - 1 - i)) := Int.pow_nonneg (by decide)
    have hset : ∀ x : Int, ((eightF 8 n).take i ++ List.replicate (d + 1) (0 : Int)).set i x = (eightF 8 n).take i ++ (x :: List.replicate d 0) := fun x => by
      rw [List.set_append_right _ _ (by omega), hlt, Nat.sub_self, List.replicate_succ, List.set_cons_zero]
    have hg := eightF_get n 8 i (by omega)
    have ht : (eightF 8 n).take (i + 1) = (eightF 8 n).take i ++ [n / 2 ^ (8 * (8 - 1 - i)) % 256] := by
      rw [List.take_add_one, hg]; rfl
    simp only [f88_0d, f88_0b, w1, w2, w3, h1, h2, h3, h4, Bool.and_self, cond_true, hv, hm, Int.toNat_natCast, hset, wrap_u8_eq, Int.fdiv_eq_ediv_of_nonneg _ hp]
    have := ih (i + 1) f (by omega) (by omega)
    rw [ht, List.append_assoc] at this
    exact this
theorem f88_eq {k : Nat} (hk : 9 < k) (n : Int) (K : List Int → Option R) : f88 k n K = K (eightF 8 n) := by
  obtain ⟨j, rfl⟩ := succ_of (show 0 < k by omega)
  have h1 : decide ((8 : Int) ≤ (LIM 1 : Int)) = true := by rw [LIM1]; decide
  have h2 : ((List.replicate 8 (0 : Int)).length : Int) = 8 := by decide
  rw [f88_def]
  simp only [f88d, h1, cond_true, h2]
  rw [f88_0_def]
  exact f88_loop j (fun y => K y) n 8 0 j (by omega) (by omega)

theorem f89_loop (k : Nat) (x0 : Int → Option R) (l : List Int) (hl : l.length < 2 ^ 40) : ∀ (d i f : Nat) (a : Int), i + d = l.length → d < f → f89_0d k x0 (l.length : Int) l f a (i : Int) = x0 (fnv (l.drop i) a) := by
  intro d
  induction d with
  | zero =>
    intro i f a hi hf
    obtain ⟨f, rfl⟩ := succ_of hf
    have h : decide ((i : Int) < (l.length : Int)) = false := by simp only [decide_eq_false_iff_not]; omega
    have hd : l.drop i = [] := List.drop_eq_nil_of_le (by omega)
    simp only [f89_0d, f89_0b, h, cond_false, hd, fnv]
  | succ d ih =>
    intro i f a hi hf
    obtain ⟨f, rfl⟩ := succ_of (show 0 < f by omega)
    have h1 : decide ((i : Int) < (l.length : Int)) = true := by simp only [decide_eq_true_eq]; omega
    have h2 : decide ((0 : Int) ≤ (i : Int)) = true := by simp only [decide_eq_true_eq]; omega
    have hlt : i < l.length := by omega
    have hw : IntKind.i64.wrap ((i : Int) + 1) = ((i + 1 : Nat) : Int) := by rw [wi (by omega) (by omega)]; rfl
    have hd : l.drop i = l[i] :: l.drop (i + 1) := List.drop_eq_getElem_cons hlt
    simp only [f89_0d, f89_0b, h1, h2, Bool.and_self, cond_true, Int.toNat_natCast, getD_in hlt, hw]
    rw [ih (i + 1) f _ (by omega) (by omega), hd]
    rfl
theorem f89_eq {k : Nat} (c : Int) (l : List Int) (hl : l.length ≤ 1000) (hk : l.length + 30 < k) (K : Int → Option R) : f89 k c l K = K (sgn c l) := by
  obtain ⟨j, rfl⟩ := succ_of (show 0 < k by omega)
  have e8 := eightF_len 8 (IntKind.u64.wrap c)
  have hfl : ([eightF 8 (IntKind.u64.wrap c), l, eightF 8 (IntKind.u64.wrap c)] : List (List Int)).flatten = eightF 8 (IntKind.u64.wrap c) ++ (l ++ eightF 8 (IntKind.u64.wrap c)) := by simp
  have hle : (eightF 8 (IntKind.u64.wrap c) ++ (l ++ eightF 8 (IntKind.u64.wrap c))).length = l.length + 16 := by simp only [List.length_append, e8]; omega
  rw [f89_def]
  simp only [f89d]
  rw [f88_eq (by omega), f96_eq _ (by simp) (by rw [hfl, hle]; omega) j (by simp only [List.length_cons, List.length_nil]; omega), hfl, f89_0_def]
  have h := f89_loop (R := R) j (fun y => K y) (eightF 8 (IntKind.u64.wrap c) ++ (l ++ eightF 8 (IntKind.u64.wrap c))) (by rw [hle]; omega) (l.length + 16) 0 j 14695981039346656037 (by omega) (by omega)
  exact h
theorem f99_loop (k : Nat) (x0 : Int → Option R) (l : List Int) (hl : l.length < 2 ^ 40) (hB : B l) : ∀ (d i f : Nat) (a : Int), 0 ≤ a → i + d = l.length → d < f → f99_0d k x0 l (l.length : Int) f a (i : Int) = x0 (numF (l.drop i) a) := by
  intro d
  induction d with
  | zero =>
    intro i f a h0 hi hf
    obtain ⟨f, rfl⟩ := succ_of hf
    have h : decide ((i : Int) < (l.length : Int)) = false := by simp only [decide_eq_false_iff_not]; omega
    have hd : l.drop i = [] := List.drop_eq_nil_of_le (by omega)
    simp only [f99_0d, f99_0b, h, cond_false, hd, numF]
  | succ d ih =>
    intro i f a h0 hi hf
    obtain ⟨f, rfl⟩ := succ_of (show 0 < f by omega)
    have h1 : decide ((i : Int) < (l.length : Int)) = true := by simp only [decide_eq_true_eq]; omega
    have h2 : decide ((0 : Int) ≤ (i : Int)) = true := by simp only [decide_eq_true_eq]; omega
    have hlt : i < l.length := by omega
    have hb := hB _ (List.getElem_mem hlt)
    have hw : IntKind.i64.wrap ((i : Int) + 1) = ((i + 1 : Nat) : Int) := by rw [wi (by omega) (by omega)]; rfl
    have hd : l.drop i = l[i] :: l.drop (i + 1) := List.drop_eq_getElem_cons hlt
    have hu : (0 : Int) ≤ IntKind.u64.wrap (a * 256) := by rw [IntKind.wrap_u64]; omega
    simp only [f99_0d, f99_0b, h1, h2, Bool.and_self, cond_true, Int.toNat_natCast, getD_in hlt, hw, or_step a l[i] h0 hb.1 hb.2]
    rw [ih (i + 1) f _ (by omega) (by omega) (by omega), hd]
    rfl
theorem f99_eq {k : Nat} (hk : 9 < k) (l : List Int) (h8 : 8 ≤ l.length) (hB : B l) (K : Int → Option R) : f99 k l K = K (numF (l.take 8) 0) := by
  obtain ⟨j, rfl⟩ := succ_of (show 0 < k by omega)
  have h1 : decide ((8 : Int) ≤ (l.length : Int)) = true := by simp only [decide_eq_true_eq]; omega
  have ht : (l.take 8).length = 8 := by rw [List.length_take]; omega
  rw [f99_def]
  simp only [f99d, h1, cond_true]
  rw [f99_0_def]
  exact f99_loop j (fun y => K y) (l.take 8) (by omega) (fun x hx => hB x (List.mem_of_mem_take hx)) 8 0 j 0 (by decide) (by omega) (by omega)
theorem f57_loop (k : Nat) (hk : 0 < k) (K : Int → Option R) (x1 : Option R) (hx : x1 = K 0) (l : List Int) (a b : Int) (hl : l.length < 2 ^ 40) (hb0 : 0 ≤ b) (hb : b ≤ 1000000001) : ∀ (d i f : Nat), i + d = l.length → d < f → f57_0d k K x1 l (l.length : Int) a b l f (i : Int) = K (keyF (b + 1) (if 1000000000 < b + 64 then 1000000000 else b + 64) (if i = 0 then none else some (l.getD (i - 1) 0)) (l.drop i)) := by
  intro d
  have w1 : IntKind.i64.wrap (b + 1) = b + 1 := wi (by omega) (by omega)
  have w2 : IntKind.i64.wrap (b + 64) = b + 64 := wi (by omega) (by omega)
  induction d with
  | zero =>
    intro i f hi hf
    obtain ⟨f, rfl⟩ := succ_of hf
    have h : decide ((i : Int) < (l.length : Int)) = false := by simp only [decide_eq_false_iff_not]; omega
    have hd : l.drop i = [] := List.drop_eq_nil_of_le (by omega)
    simp only [f57_0d, f57_0b, h, cond_false, hd, hx, keyF]
  | succ d ih =>
    intro i f hi hf
    obtain ⟨f, rfl⟩ := succ_of (show 0 < f by omega)
    have h1 : decide ((i : Int) < (l.length : Int)) = true := by simp only [decide_eq_true_eq]; omega
    have h2 : decide ((0 : Int) ≤ (i : Int)) = true := by simp only [decide_eq_true_eq]; omega
    have hlt : i < l.length := by omega
    have hw : IntKind.i64.wrap ((i : Int) + 1) = ((i + 1 : Nat) : Int) := by rw [wi (by omega) (by omega)]; rfl
    have hd : l.drop i = l[i] :: l.drop (i + 1) := List.drop_eq_getElem_cons hlt
    have hn := ih (i + 1) f (by omega) (by omega)
    rw [if_neg (Nat.succ_ne_zero i), Nat.add_sub_cancel, getD_in hlt] at hn
    simp only [f57_0d, f57_0b, h1, h2, Bool.and_self, cond_true, Int.toNat_natCast, getD_in hlt, hw, w1, w2, f63_eq hk, hd, keyF]
    cases inB l[i] (b + 1) (if 1000000000 < b + 64 then 1000000000 else b + 64) with
    | false => simp only [Bool.not_false, cond_true]
    | true =>
      simp only [Bool.not_true, cond_false]
      cases i with
      | zero => exact hn
      | succ i =>
        have g1 : (decide (((i + 1 : Nat) : Int) > 0) == true) = true := by simp only [beq_iff_eq, decide_eq_true_eq]; omega
        have g2 : IntKind.i64.wrap (((i + 1 : Nat) : Int) - 1) = (i : Int) := by rw [wi (by omega) (by omega)]; omega
        have g3 : decide ((0 : Int) ≤ (i : Int)) = true := by simp only [decide_eq_true_eq]; omega
        have g4 : decide ((i : Int) < (l.length : Int)) = true := by simp only [decide_eq_true_eq]; omega
        rw [if_neg (Nat.succ_ne_zero i), Nat.add_sub_cancel]
        simp only [g1, g2, g3, g4, Bool.and_self, cond_true, Int.toNat_natCast, hn]
        cases decide (l[i + 1] ≤ l.getD i 0) <;> rfl
theorem f57_eq {k : Nat} (hk : 70 < k) (c n : Int) (l : List Int) (K : Int → Option R) : f57 k c n l K = K (keysF c n l) := by
  obtain ⟨j, rfl⟩ := succ_of (show 0 < k by omega)
  rw [f57_def]
  simp only [f57d, f63_eq (show 0 < j by omega), keysF]
  cases inB c 0 1000000000000000 with
  | false => rfl
  | true =>
    cases hn : inB n 0 1000000001 with
    | false => rfl
    | true =>
      have hb := inB_iff.1 hn
      by_cases h : 64 < l.length
      · have h1 : decide ((l.length : Int) > 64) = true := by simp only [decide_eq_true_eq]; omega
        have h2 : decide (64 < l.length) = true := by simp only [decide_eq_true_eq]; omega
        simp only [h1, h2, Bool.not_true, cond_false, cond_true]
        rfl
      · have h1 : decide ((l.length : Int) > 64) = false := by simp only [decide_eq_false_iff_not]; omega
        have h2 : decide (64 < l.length) = false := by simp only [decide_eq_false_iff_not]; omega
        simp only [h1, h2, Bool.not_true, cond_false]
        have e := f57_loop (R := R) j (by omega) K (K 0) rfl l c n (by omega) hb.1 hb.2 l.length 0 j (by omega) (by omega)
        rw [f57_0_def]
        exact e
/-- Where a counter goes among ordered ones. -/
def posF (v : Int) : List Int → Nat
  | [] => 0
  | x :: l => if x < v then posF v l + 1 else 0
theorem posF_le (v : Int) : ∀ l : List Int, posF v l ≤ l.length
  | [] => Nat.le_refl _
  | x :: l => by
    have := posF_le v l
    simp only [posF]
    split <;> simp only [List.length_cons] <;> omega
theorem posF_spec (v : Int) : ∀ l : List Int, l.Pairwise (· < ·) → (∀ x ∈ l.take (posF v l), x < v) ∧ (∀ x ∈ l.drop (posF v l), v ≤ x)
  | [], _ => by simp
  | x :: l, h => by
    have h' := List.pairwise_cons.1 h
    obtain ⟨g1, g2⟩ := posF_spec v l h'.2
    simp only [posF]
    split
    · rename_i hx
      refine ⟨fun y hy => ?_, fun y hy => ?_⟩
      · rw [List.take_succ_cons] at hy
        rcases List.mem_cons.1 hy with rfl | hy
        · exact hx
        · exact g1 y hy
      · rw [List.drop_succ_cons] at hy
        exact g2 y hy
    · rename_i hx
      refine ⟨fun y hy => by simp at hy, fun y hy => ?_⟩
      rw [List.drop_zero] at hy
      rcases List.mem_cons.1 hy with rfl | hy
      · omega
      · have := h'.1 y hy; omega
theorem ins_sort {l : List Int} (v : Int) (h : l.Pairwise (· < ·)) : insL ((posF v l : Nat) : Int) l [v] = sortI (l ++ [v]) := by
  obtain ⟨g1, g2⟩ := posF_spec v l h
  have hl : l = l.take (posF v l) ++ l.drop (posF v l) := (List.take_append_drop _ _).symm
  unfold insL
  rw [Int.toNat_natCast]
  have hp : (l.take (posF v l) ++ [v] ++ l.drop (posF v l)).Perm (sortI (l ++ [v])) := by
    refine List.Perm.trans ?_ (sortI_perm _).symm
    conv => rhs; rw [hl]
    rw [List.append_assoc, List.append_assoc]
    exact List.Perm.append_left _ List.perm_append_comm
  have ha : (l.take (posF v l) ++ [v] ++ l.drop (posF v l)).Pairwise (· ≤ ·) := by
    have h2 := h
    rw [hl] at h2
    obtain ⟨p1, p2, p3⟩ := List.pairwise_append.1 h2
    refine List.pairwise_append.2 ⟨List.pairwise_append.2 ⟨p1.imp fun h => by omega, by simp, fun a ha b hb => ?_⟩, p2.imp fun h => by omega, fun a ha b hb => ?_⟩
    · simp at hb; subst hb; have := g1 a ha; omega
    · rcases List.mem_append.1 ha with ha | ha
      · have := p3 a ha b hb; omega
      · simp at ha; subst ha; exact g2 b hb
  exact List.Perm.eq_of_pairwise (fun a b _ _ h1 h2 => by omega) ha (sortI_asc _) hp
theorem f100_loop (k : Nat) (x0 : Int → Option R) (v c n : Int) (w : List Int) (a b : Int) (l : List Int) (hl : l.length < 2 ^ 40) : ∀ (d i f : Nat), i + d = l.length → d < f → f100_0d k x0 v c n w a b l f (i : Int) = x0 ((i + posF v (l.drop i) : Nat) : Int) := by
  intro d
  induction d with
  | zero =>
    intro i f hi hf
    obtain ⟨f, rfl⟩ := succ_of hf
    have h : (decide ((i : Int) < (l.length : Int)) == true) = false := by
      have : decide ((i : Int) < (l.length : Int)) = false := by simp only [decide_eq_false_iff_not]; omega
      rw [this]; rfl
    have hd : l.drop i = [] := List.drop_eq_nil_of_le (by omega)
    simp only [f100_0d, f100_0b, h, cond_false, hd, posF, Nat.add_zero]
  | succ d ih =>
    intro i f hi hf
    obtain ⟨f, rfl⟩ := succ_of (show 0 < f by omega)
    have h1 : decide ((i : Int) < (l.length : Int)) = true := by simp only [decide_eq_true_eq]; omega
    have h2 : decide ((0 : Int) ≤ (i : Int)) = true := by simp only [decide_eq_true_eq]; omega
    have hlt : i < l.length := by omega
    have hw : IntKind.i64.wrap ((i : Int) + 1) = ((i + 1 : Nat) : Int) := by rw [wi (by omega) (by omega)]; rfl
    have hd : l.drop i = l[i] :: l.drop (i + 1) := List.drop_eq_getElem_cons hlt
    simp only [f100_0d, f100_0b, h1, h2, BEq.rfl, Bool.and_self, cond_true, Int.toNat_natCast, getD_in hlt, hw, hd, posF]
    by_cases hx : l[i] < v
    · simp only [hx, decide_true, cond_true, if_true]
      rw [ih (i + 1) f (by omega) (by omega)]
      congr 1
      omega
    · simp only [hx, decide_false, cond_false, if_false, Nat.add_zero]

theorem f100_loop2 (k : Nat) (x0 : Int → List Int → Option R) (a : Int) (b : List Int) (c e : Int) : ∀ (l : List Int) (f : Nat) (n : Int), l.length < f → f100_2d k x0 a b c e f n l = x0 (runF n l).1 (runF n l).2 := by
  intro l
  induction l with
  | nil =>
    intro f n hf
    obtain ⟨f, rfl⟩ := succ_of hf
    rfl
  | cons x l ih =>
    intro f n hf
    obtain ⟨f, rfl⟩ := succ_of hf
    have hl : (x :: l).length = l.length + 1 := rfl
    have h1 : (decide (((x :: l).length : Int) > (0 : Int)) == true) = true := by rw [hl]; simp only [beq_iff_eq, decide_eq_true_eq]; omega
    have h2 : decide ((0 : Int) < ((x :: l).length : Int)) = true := by rw [hl]; simp only [decide_eq_true_eq]; omega
    have h3 : decide ((1 : Int) ≤ ((x :: l).length : Int)) = true := by rw [hl]; simp only [decide_eq_true_eq]; omega
    have h4 : (x :: l).getD 0 (0 : Int) = x := rfl
    have h5 : ((x :: l).drop 1).take ((x :: l).length - 1) = l := by rw [hl]; simp
    simp only [f100_2d, f100_2b, h1, h2, h3, h4, h5, cond_true, runF]
    cases hx : (x == n) with
    | true => simp only [cond_true]; exact ih f _ (by omega)
    | false => simp only [cond_false]; try rfl
theorem f100_eq {k : Nat} (a n : Int) (l : List Int) (v : Int) (hl : l.length < 100000) (hp : l.Pairwise (· < ·)) (hk : l.length + 4 < k) (K : Int → Int → List Int → Option R) : f100 k a n l v K = K a (runF n (sortI (l ++ [v]))).1 (runF n (sortI (l ++ [v]))).2 := by
  obtain ⟨j, rfl⟩ := succ_of (show 0 < k by omega)
  obtain ⟨m, rfl⟩ := succ_of (show 0 < j by omega)
  have hs : (sortI (l ++ [v])).length = l.length + 1 := by rw [sortI_len]; simp
  have hle := posF_le v l
  have hok : insOk ((posF v l : Nat) : Int) l [v] = true := by
    simp only [insOk, Bool.and_eq_true, decide_eq_true_eq, List.length_singleton]
    omega
  rw [f100_def]
  simp only [f100d]
  rw [f86_eq (by omega) l (by omega), f100_0_def]
  have e := f100_loop (R := R) (m + 1) (fun y0_0_1 => (f103 (m + 1) y0_0_1 l ([v] : List Int) (fun r12292_0 r12292_1 => (bif (decide (r12292_0.length = ([v] : List Int).length) && true) then (f100_2 (m + 1) (fun y2_2_1 y2_2_5 => (K a y2_2_1 y2_2_5)) a l 0 0 (m + 1) n r12292_1) else none)))) v a n l 0 0 l (by omega) l.length 0 (m + 1) (by omega) (by omega)
  rw [Nat.zero_add, List.drop_zero] at e
  refine e.trans ?_
  rw [f103_def]
  simp only [f103d, hok, cond_true, decide_true, Bool.and_self, ins_sort v hp]
  rw [f100_2_def]
  exact f100_loop2 (R := R) _ _ _ _ _ _ _ _ _ (by rw [hs]; omega)

theorem f87_eq {k : Nat} (c n : Int) (l b : List Int) (hO : KeysOk n l) (hB : B b) (hk : 1000 < k) (K : Int → Int → Int → Int → List Int → List Int → Option R) : f87 k c n l b K = (openF c n l b).on K := by
  obtain ⟨j, rfl⟩ := succ_of (show 0 < k by omega)
  have h0 := hO.lo
  have h1 := hO.hi
  have hl := hO.len
  rw [f87_def]
  simp only [f87d]
  by_cases a1 : b.length ≤ 16
  · have e1 : decide ((b.length : Int) < 17) = true := by rw [decide_eq_true_eq]; omega
    simp only [e1, cond_true, openF, if_pos a1]
    rfl
  have e1 : decide ((b.length : Int) < 17) = false := by rw [decide_eq_false_iff_not]; omega
  by_cases a2 : 216 < b.length
  · have e2 : decide ((b.length : Int) > 216) = true := by rw [decide_eq_true_eq]; omega
    simp only [e1, e2, cond_true, cond_false, openF, if_neg a1, if_pos a2]
    rfl
  have e2 : decide ((b.length : Int) > 216) = false := by rw [decide_eq_false_iff_not]; omega
  have w : IntKind.i64.wrap ((b.length : Int) - 8) = ((b.length - 8 : Nat) : Int) := by rw [wi (by omega) (by omega)]; omega
  have e3 : decide ((0 : Int) ≤ ((b.length - 8 : Nat) : Int)) = true := by rw [decide_eq_true_eq]; omega
  have e4 : decide (((b.length - 8 : Nat) : Int) ≤ (b.length : Int)) = true := by rw [decide_eq_true_eq]; omega
  have ht : (b.take (b.length - 8)).length = b.length - 8 := by rw [List.length_take]; omega
  have e5 : decide ((8 : Int) ≤ ((b.take (b.length - 8)).length : Int)) = true := by rw [decide_eq_true_eq, ht]; omega
  have hd : (b.drop (b.length - 8)).length = 8 := by rw [List.length_drop]; omega
  have htt : (b.take (b.length - 8)).take 8 = b.take 8 := by rw [List.take_take]; congr 1; omega
  have hBt : B (b.take (b.length - 8)) := fun x hx => hB x (List.mem_of_mem_take hx)
  have hv := numF_range (b.take 8) 0 (fun x hx => hB x (List.mem_of_mem_take hx)) (by decide) (by decide)
  simp only [e1, e2, cond_false, w, e3, e4, e5, Bool.and_self, cond_true, Int.toNat_natCast]
  rw [f89_eq c _ (by omega) (by omega), f99_eq (by omega) _ (by omega) (fun x hx => hB x (List.mem_of_mem_drop hx))]
  unfold openF
  rw [if_neg a1, if_neg a2]
  by_cases a3 : sgn c (b.take (b.length - 8)) = numF ((b.drop (b.length - 8)).take 8) 0
  · rw [if_neg (fun h => h a3)]
    have f1 : (sgn c (b.take (b.length - 8)) != numF ((b.drop (b.length - 8)).take 8) 0) = false := by rw [bne_dec]; simp [a3]
    simp only [f1, cond_false]
    rw [f99_eq (by omega) _ (by omega) hBt, htt]
    generalize numF (b.take 8) 0 = v at hv ⊢
    by_cases a4 : 1000000000 < v
    · simp only [show decide (v > 1000000000) = true from decide_eq_true a4, cond_true, if_pos a4]; rfl
    have w2 : IntKind.i64.wrap v = v := wi (by omega) (by omega)
    have w3 : IntKind.i64.wrap (n + 64) = n + 64 := wi (by omega) (by omega)
    simp only [show decide (v > 1000000000) = false from decide_eq_false a4, cond_false, if_neg a4, w2, w3]
    by_cases a5 : v < n
    · simp only [show decide (v < n) = true from decide_eq_true a5, if_pos a5]; rfl
    simp only [show decide (v < n) = false from decide_eq_false a5, if_neg a5, beq_self_eq_true, cond_true]
    rw [f51_eq l (by omega) (by omega)]
    cases a6 : l.contains v with
    | true => simp only [cond_true, if_pos]; rfl
    | false =>
      by_cases a7 : n + 64 < v
      · simp only [show decide (v > n + 64) = true from decide_eq_true a7, cond_true, cond_false, if_pos a7]; rfl
      simp only [show decide (v > n + 64) = false from decide_eq_false a7, cond_false, if_neg a7]
      rw [f100_eq c n l v (by omega) hO.asc (by omega), f59_eq (by omega) _ (by rw [List.length_drop, ht]; omega)]
      rfl
  · rw [if_pos a3]
    have f1 : (sgn c (b.take (b.length - 8)) != numF ((b.drop (b.length - 8)).take 8) 0) = true := by rw [bne_dec]; simp [a3]
    simp only [f1, cond_true]
    rfl
theorem f58_eq {k : Nat} (hk : 1001 < k) (c n : Int) (l b : List Int) (hB : B b) (K : Int → Int → Int → Int → List Int → List Int → Option R) : f58 k c n l b K = (bif (keysF c n l != 0) then K 0 0 0 (keysF c n l) [] [] else (openF c n l b).on K) := by
  obtain ⟨j, rfl⟩ := succ_of (show 0 < k by omega)
  rw [f58_def]
  simp only [f58d]
  rw [f57_eq (by omega)]
  by_cases h : keysF c n l = 0
  · have hO := ((keysF_iff c n l).1 h).2
    simp only [h, bne_self_eq_false, cond_false]
    exact f87_eq c n l b hO hB (by omega) _
  · have e : (keysF c n l != 0) = true := by simp [h]
    simp only [e, cond_true]
theorem f50_all {k : Nat} (hk : 1001 < k) (c n : Int) (l b : List Int) (hB : B b) (K : Int → Int → Int → Int → List Int → List Int → Option R) : f50 k c n l b K = (bif (keysF c n l != 0) then K 0 0 0 (keysF c n l) [] [] else (openF c n l b).on K) := by
  obtain ⟨j, rfl, e⟩ := f50_eq (R := R) (k := k) (by omega) c n l b K
  rw [e]
  by_cases h : keysF c n l = 0
  · have hO := ((keysF_iff c n l).1 h).2
    simp only [h, bne_self_eq_false, cond_false]
    exact f84_eq c n l b hO.len hO.lo hO.hi hB (by omega) _
  · have e : (keysF c n l != 0) = true := by simp [h]
    simp only [e, cond_true]

theorem f53_loop (k : Nat) (hk : 1000 < k) (x0 : Int → Int → List Int → List (List Int) → List Int → Option R) (L : List (List Int)) (w6 w7 : Int) (hL : L.length ≤ 100000) (hB : ∀ b ∈ L, B b) :
    ∀ (d i f : Nat) (c n : Int) (l : List Int) (bs : List (List Int)) (cs : List Int), KeysOk n l → bs.length ≤ i → cs.length ≤ i → i + d = L.length → d < f →
      f53_0d k x0 L (L.length : Int) w6 w7 f (i : Int) c n l bs cs = (fun s : AllS => x0 s.key s.least s.taken s.bodies s.codes) (allS c n l bs cs (L.drop i)) := by
  intro d
  induction d with
  | zero =>
    intro i f c n l bs cs hO h1 h2 hi hf
    obtain ⟨f, rfl⟩ := succ_of hf
    have h : decide ((i : Int) < (L.length : Int)) = false := by simp only [decide_eq_false_iff_not]; omega
    have hd : L.drop i = [] := List.drop_eq_nil_of_le (by omega)
    simp only [f53_0d, f53_0b, h, cond_false, hd, allS]
  | succ d ih =>
    intro i f c n l bs cs hO hb1 hb2 hi hf
    obtain ⟨f, rfl⟩ := succ_of (show 0 < f by omega)
    have h1 : decide ((i : Int) < (L.length : Int)) = true := by simp only [decide_eq_true_eq]; omega
    have h2 : decide ((0 : Int) ≤ (i : Int)) = true := by simp only [decide_eq_true_eq]; omega
    have hlt : i < L.length := by omega
    have hw : IntKind.i64.wrap ((i : Int) + 1) = ((i + 1 : Nat) : Int) := by rw [wi (by omega) (by omega)]; rfl
    have hd : L.drop i = L[i] :: L.drop (i + 1) := List.drop_eq_getElem_cons hlt
    have hbi := hB L[i] (List.getElem_mem hlt)
    simp only [f53_0d, f53_0b, h1, h2, Bool.and_self, cond_true, Int.toNat_natCast, getD_in hlt, hw]
    rw [f87_eq c n l L[i] hO hbi (by omega)]
    have hc8 : ∀ z : Int, decide (cs.length + ([z] : List Int).length ≤ LIM 8) = true := fun z => by rw [decide_eq_true_eq, show LIM 8 = 17592186044416 by decide, List.length_singleton]; omega
    have hb24 : ∀ z : List Int, decide (bs.length + ([z] : List (List Int)).length ≤ LIM 24) = true := fun z => by rw [decide_eq_true_eq, show LIM 24 = 5864062014805 by decide, List.length_singleton]; omega
    simp only [Opened.on, f53_1000014_def, f53_1000014d, hc8, hb24, cond_true, hd, allS]
    by_cases ho : (openF c n l L[i]).code = 0
    · have e : ((openF c n l L[i]).code == 0) = true := by simp [ho]
      simp only [e, cond_true, if_pos ho]
      exact ih (i + 1) f _ _ _ _ _ (openF_ok hO ho).2 (by simp; omega) (by simp; omega) (by omega) (by omega)
    · have e : ((openF c n l L[i]).code == 0) = false := by simp [ho]
      simp only [e, cond_false, if_neg ho]
      exact ih (i + 1) f _ _ _ _ _ hO (by omega) (by simp; omega) (by omega) (by omega)
theorem allS_ok : ∀ (L : List (List Int)) (c n : Int) (l : List Int) (bs : List (List Int)) (cs : List Int), KeysOk n l → (allS c n l bs cs L).taken.length ≤ 64 ∧ (allS c n l bs cs L).bodies.length ≤ bs.length + L.length ∧ (allS c n l bs cs L).codes.length = cs.length + L.length ∧ ((∀ b ∈ bs, b.length ≤ 200) → ∀ b ∈ (allS c n l bs cs L).bodies, b.length ≤ 200)
  | [], c, n, l, bs, cs, h => ⟨h.len, by simp [allS], by simp [allS], fun h => h⟩
  | b :: L, c, n, l, bs, cs, h => by
    simp only [allS]
    split
    · rename_i ho
      obtain ⟨g1, g2, g3, g4⟩ := allS_ok L _ _ _ (bs ++ [(openF c n l b).body]) (cs ++ [(openF c n l b).code]) (openF_ok h ho).2
      refine ⟨g1, by simp only [List.length_append, List.length_singleton, List.length_cons, List.length_nil] at g2 ⊢; omega, by simp only [List.length_append, List.length_singleton, List.length_cons, List.length_nil] at g3 ⊢; omega, fun hb => g4 fun x hx => ?_⟩
      rcases List.mem_append.1 hx with hx | hx
      · exact hb x hx
      · simp at hx
        subst hx
        unfold openF
        repeat' split
        all_goals first | (simp [notOpen]; done) | (simp only [List.length_drop, List.length_take]; omega)
    · obtain ⟨g1, g2, g3, g4⟩ := allS_ok L c n l bs (cs ++ [(openF c n l b).code]) h
      exact ⟨g1, by simp only [List.length_cons] at g2 ⊢; omega, by simp only [List.length_append, List.length_singleton, List.length_cons, List.length_nil] at g3 ⊢; omega, g4⟩
theorem f53_eq {k : Nat} (hk : 3000 < k) (c n : Int) (l : List Int) (L : List (List Int)) (hB : ∀ b ∈ L, B b) (hL : L.length < 2 ^ 60) (K : Int → Int → Int → List Int → List (List Int) → List Int → Option R) :
    f53 k c n l L K = (fun s : All6 => K s.key s.least s.code s.taken s.bodies s.codes) (allF c n l L) := by
  obtain ⟨j, rfl⟩ := succ_of (show 0 < k by omega)
  rw [f53_def]
  simp only [f53d]
  rw [f57_eq (by omega)]
  by_cases hK : keysF c n l = 0
  · obtain ⟨_, hO⟩ := (keysF_iff c n l).1 hK
    have h64 := hO.len
    simp only [hK, bne_self_eq_false, cond_false, allF, ne_eq, not_true_eq_false, if_false]
    by_cases h2 : 2000 < L.length
    · have e : decide ((L.length : Int) > 2000) = true := by rw [decide_eq_true_eq]; omega
      simp only [e, cond_true, if_pos h2]
    · have e : decide ((L.length : Int) > 2000) = false := by rw [decide_eq_false_iff_not]; omega
      simp only [e, cond_false, if_neg h2]
      rw [f53_0_def]
      refine (f53_loop j (by omega) (fun y0_0_0 y0_0_1 y0_0_2 y0_0_5 y0_0_6 => (f86 j y0_0_2 (fun r34818_0 => (K y0_0_0 y0_0_1 0 r34818_0 y0_0_5 y0_0_6)))) L 0 0 (by omega) hB L.length 0 j c n l [] [] hO (by simp) (by simp) (by omega) (by omega)).trans ?_
      simp only [List.drop_zero]
      rw [f86_eq (by omega) _ (by have := (allS_ok L c n l [] [] hO).1; omega)]
  · have e : (keysF c n l != 0) = true := by simp [hK]
    simp only [e, cond_true, allF, ne_eq, hK, not_false_eq_true, if_true]

theorem equal_loop54 (k : Nat) (K : Bool → Option R) (l m : List Int) (hlm : l.length = m.length) (hl : l.length < 4611686018427387904) : ∀ (d f i : Nat), i + d = l.length → d < f →
    f54_0d k K (K true) l m (l.length : Int) f (i : Int) = K (decide (l.drop i = m.drop i))
  | d, 0, i, _, h => absurd h (Nat.not_lt_zero _)
  | 0, f + 1, i, hi, _ => by
    have h1 : decide ((i : Int) < (l.length : Int)) = false := by simp only [decide_eq_false_iff_not]; omega
    simp only [f54_0d, f54_0b, h1, cond_false]
    rw [List.drop_of_length_le (by omega), List.drop_of_length_le (by omega)]
    simp
  | d + 1, f + 1, i, hi, hf => by
    have h1 : decide ((i : Int) < (l.length : Int)) = true := by simp only [decide_eq_true_eq]; omega
    have h2 : decide ((i : Int) < (m.length : Int)) = true := by simp only [decide_eq_true_eq]; omega
    have h0 : decide ((0 : Int) ≤ (i : Int)) = true := by simp
    have hw : IntKind.i64.wrap ((i : Int) + 1) = ((i + 1 : Nat) : Int) := by rw [wraps_i64 _ (by omega) (by omega)]; omega
    have hli : i < l.length := by omega
    have hmi : i < m.length := by omega
    simp only [f54_0d, f54_0b, h1, h0, h2, cond_true, Bool.and_self, Int.toNat_natCast, hw]
    have g1 : l.getD i 0 = l[i] := by rw [List.getD_eq_getElem?_getD, List.getElem?_eq_getElem hli]; rfl
    have g2 : m.getD i 0 = m[i] := by rw [List.getD_eq_getElem?_getD, List.getElem?_eq_getElem hmi]; rfl
    rw [g1, g2, List.drop_eq_getElem_cons hli, List.drop_eq_getElem_cons hmi, bne_dec]
    by_cases e : l[i] = m[i]
    · simp only [e, decide_true, Bool.not_true, cond_false, List.cons.injEq, true_and]
      exact equal_loop54 k K l m hlm hl d f (i + 1) (by omega) (by omega)
    · simp only [List.cons.injEq, e, false_and, decide_false, Bool.not_false, cond_true]
theorem f54_eq {k : Nat} {l : List Int} (m : List Int) (hk : l.length + 1 < k) (hl : l.length < 4611686018427387904) (K : Bool → Option R) : f54 k l m K = K (decide (l = m)) := by
  rw [f54_def]
  obtain ⟨k, rfl⟩ := succ_of hk
  simp only [f54d, bne_dec, f54_0_def]
  by_cases h : l.length = m.length
  · have : decide ((l.length : Int) = (m.length : Int)) = true := by simp only [decide_eq_true_eq]; omega
    simp only [this, Bool.not_true, cond_false]
    exact (equal_loop54 k K l m h hl l.length k 0 (by omega) (by omega)).trans (by simp)
  · have : decide ((l.length : Int) = (m.length : Int)) = false := by simp only [decide_eq_false_iff_not]; omega
    have h' : ¬ l = m := fun e => h (by rw [e])
    simp [this, h']
theorem f55_same {k : Nat} (a b : Int) (l : List Int) (hk : l.length + 3 < k) (hl : l.length < 2 ^ 40) (K : Bool → Option R) : f55 k a b l a b l K = K true := by
  obtain ⟨j, rfl⟩ := succ_of (show 0 < k by omega)
  rw [f55_def]
  simp only [f55d, BEq.rfl, cond_true]
  rw [f54_eq l (by omega) (by omega), decide_eq_true rfl]
theorem allF_small (c n : Int) (l : List Int) (L : List (List Int)) : (allF c n l L).taken.length ≤ 64 ∧ (allF c n l L).bodies.length ≤ 2000 ∧ (allF c n l L).codes.length ≤ 2000 ∧ ∀ b ∈ (allF c n l L).bodies, b.length ≤ 200 := by
  unfold allF
  split
  · simp
  · rename_i h
    split
    · simp
    · rename_i h2
      have hO := ((keysF_iff c n l).1 (by simpa using h)).2
      obtain ⟨g1, g2, g3, g4⟩ := allS_ok L c n l [] [] hO
      simp only [List.length_nil] at g2 g3
      exact ⟨g1, by simp only; omega, by simp only; omega, g4 (by simp)⟩
theorem f14_eq {k : Nat} (hk : 5000 < k) (c n : Int) (l : List Int) (L : List (List Int)) (hB : ∀ b ∈ L, B b) (hL : L.length < 2 ^ 60) (K : Bool → Option R) : f14 k c n l L K = K true := by
  obtain ⟨j, rfl⟩ := succ_of (show 0 < k by omega)
  rw [f14_def]
  simp only [f14d]
  rw [f52_eq (by omega) c n l L hB hL]
  dsimp only
  rw [f53_eq (by omega) c n l L hB hL]
  dsimp only
  obtain ⟨g1, g2, g3, g4⟩ := allF_small c n l L
  generalize allF c n l L = s at g1 g2 g3 g4
  simp only [BEq.rfl, cond_true]
  rw [f54_eq _ (by omega) (by omega), decide_eq_true rfl]
  simp only [BEq.rfl, cond_true]
  rw [f46_eq _ (by omega) (by omega) (fun b hb => by have := g4 b hb; omega), decide_eq_true rfl]
  simp only [BEq.rfl, cond_true]
  rw [f55_same _ _ _ (by omega) (by omega)]
  simp only [BEq.rfl, cond_true]
  rw [f21_eq (by omega)]
theorem f56_eq {k : Nat} (hk : 300 < k) (c v : Int) (b : List Int) (K : Int → List Int → Option R) : f56 k c v b K = K (signF c v b).1 (signF c v b).2 := by
  obtain ⟨j, rfl⟩ := succ_of (show 0 < k by omega)
  rw [f56_def]
  simp only [f56d]
  rw [f63_eq (by omega)]
  cases h1 : inB c 0 1000000000000000 with
  | false =>
    have e : signErr c v b = 1 := by simp [signErr, h1, firstF]
    simp [signF, e]
  | true =>
    simp only [Bool.not_true, BEq.rfl, cond_true]
    rw [f63_eq (by omega)]
    cases h2 : inB v 0 1000000000 with
    | false =>
      have e : signErr c v b = 1 := by simp [signErr, h1, h2, firstF]
      simp [signF, e]
    | true =>
      simp only [Bool.not_true, cond_false]
      rw [f72_eq (by omega)]
      have e : signErr c v b = chkBody b.length := by
        simp only [signErr, h1, h2, if_true, firstF]
        split <;> simp_all
      by_cases h : signErr c v b = 0
      · obtain ⟨h1, h2, h3, h4⟩ := signErr_ok h
        have hw : IntKind.u64.wrap v = v := by rw [IntKind.wrap_u64]; omega
        have e1 : decide ((eightF 8 v).length + b.length ≤ LIM 1) = true := by rw [LIM1, eightF_len]; simp only [decide_eq_true_eq]; omega
        have e2 : ∀ x, decide ((eightF 8 v ++ b).length + (eightF 8 x).length ≤ LIM 1) = true := fun x => by rw [LIM1, List.length_append, eightF_len, eightF_len]; simp only [decide_eq_true_eq]; omega
        have e3 : (eightF 8 v ++ b).length = 8 + b.length := by rw [List.length_append, eightF_len]
        rw [← e]
        simp only [signF, h, if_true, bne_self_eq_false, cond_false, hw]
        rw [f88_eq (by omega)]
        simp only [e1, cond_true]
        rw [f89_eq c _ (by omega) (by omega), f88_eq (by omega)]
        simp only [e2, cond_true]
        rfl
      · rw [← e]
        have e : (signErr c v b != 0) = true := by simp [h]
        simp only [signF, if_neg h, e, cond_true]
theorem signF_len (c v : Int) (b : List Int) : (signF c v b).2.length ≤ 216 := by
  unfold signF
  split
  · rename_i h
    have := signErr_ok h
    simp only [signB_len]
    omega
  · simp
theorem openF_small (c n : Int) (l b : List Int) (h : KeysOk n l) : (openF c n l b).taken.length ≤ 64 ∧ (openF c n l b).body.length ≤ 200 := by
  refine ⟨?_, ?_⟩
  · by_cases ho : (openF c n l b).code = 0
    · exact (openF_ok h ho).2.len
    · unfold openF at ho ⊢
      repeat' split at ho
      all_goals first | (exact absurd rfl ho) | skip
      all_goals (repeat' split)
      all_goals first | (simp [notOpen]; done) | (exfalso; simp_all; done) | skip
  · unfold openF
    repeat' split
    all_goals first | (simp [notOpen]; done) | (simp only [List.length_drop, List.length_take]; omega)
theorem f15_eq {k : Nat} (hk : 5000 < k) (c v : Int) (b : List Int) (c2 n : Int) (l b2 : List Int) (hB : B b2) (K : Bool → Option R) : f15 k c v b c2 n l b2 K = K true := by
  obtain ⟨j, rfl⟩ := succ_of (show 0 < k by omega)
  rw [f15_def]
  simp only [f15d]
  rw [f49_eq (by omega), f56_eq (by omega), f48_eq (by omega), f57_eq (by omega)]
  have hs := signF_len c v b
  simp only [bne_self_eq_false, BEq.rfl, cond_true]
  rw [f24_eq _ (by omega) (by omega), decide_eq_true rfl]
  simp only [Bool.not_true, cond_false]
  rw [f50_all (by omega) c2 n l b2 hB]
  by_cases h : keysF c2 n l = 0
  · have hO := ((keysF_iff c2 n l).1 h).2
    obtain ⟨g1, g2⟩ := openF_small c2 n l b2 hO
    have e : (keysF c2 n l != 0) = false := by simp [h]
    simp only [e, cond_false, Opened.on]
    rw [f58_eq (by omega) c2 n l b2 hB]
    simp only [e, cond_false, Opened.on, BEq.rfl, cond_true]
    rw [f24_eq _ (by omega) (by omega), decide_eq_true rfl]
    simp only [BEq.rfl, cond_true]
    rw [f55_same _ _ _ (by omega) (by omega)]
    simp only [BEq.rfl, cond_true]
    rw [f21_eq (by omega)]
  · have e : (keysF c2 n l != 0) = true := by simp [h]
    simp only [e, cond_true]
    rw [f58_eq (by omega) c2 n l b2 hB]
    simp only [e, cond_true, BEq.rfl]
    rw [f24_eq _ (by simp; omega) (by simp), decide_eq_true rfl]
    simp only [BEq.rfl, cond_true]
    rw [f55_same _ _ _ (by simp; omega) (by simp)]
    simp only [BEq.rfl, cond_true]
    rw [f21_eq (by omega)]

end Go.Proofs.Ytadkplikobhckaa.PM

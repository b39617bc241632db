/- Plain laws of spans: the code and the reference. -/
import Derived.Test.YtlcklflbhhnnhaaPlSpan
set_option linter.unusedSimpArgs false
set_option linter.unusedVariables false
namespace Go.Proofs.Ytlcklflbhhnnhaa.PM
open Go Go.Proofs.Ytlcklflbhhnnhaa.Bt
variable {R : Type}

theorem f132_eq {k : Nat} (hk : 0 < k) {n : Int} (h0 : 0 ≤ n) (h1 : n ≤ 1000000000) (K : List Rg → Option R) : f132 k n K = K [] := by
  rw [f132_def]
  obtain ⟨k, rfl⟩ := succ_of hk
  have hd : decide (n < 0) = false := by simp only [decide_eq_false_iff_not]; omega
  simp only [f132d, f132_1000002_def, f132_1000002d, hd, cond_false, f132_1000005_def, f132_1000005d, Int.sub_zero]
  rw [wi (by omega) (by omega)]
  by_cases h : n > 0
  · have h2 : decide ((List.replicate n.toNat ((0, (0, ())) : Rg)).length ≤ LIM 16) = true := by rw [LIM16]; simp only [decide_eq_true_eq, List.length_replicate]; omega
    have h3 : decide (0 ≤ n) = true := by simp only [decide_eq_true_eq]; omega
    have h4 : decide (0 ≤ ((List.replicate n.toNat ((0, (0, ())) : Rg)).length : Int)) = true := by simp only [decide_eq_true_eq]; omega
    simp only [h, h2, h3, h4, decide_true, cond_true, Bool.and_self, List.take_zero]
  · simp only [h, decide_false, cond_false]
theorem f114_eq {k : Nat} (hk : 5 < k) (a b : List Rg) (ha : a.length ≤ 100000) (hb : b.length ≤ 100000) (K : List Rg → Option R) : f114 k [a, b] K = K (a ++ b) := by
  rw [f114_def]
  obtain ⟨k, rfl⟩ := succ_of hk
  obtain ⟨k, rfl⟩ := succ_of (show 2 < k by omega)
  obtain ⟨k, rfl⟩ := succ_of (show 1 < k by omega)
  obtain ⟨k, rfl⟩ := succ_of (show 0 < k by omega)
  have w0 : IntKind.i64.wrap (0 + (a.length : Int)) = (a.length : Int) := by rw [wi (by omega) (by omega)]; omega
  have w1 : IntKind.i64.wrap ((a.length : Int) + (b.length : Int)) = (a.length : Int) + (b.length : Int) := wi (by omega) (by omega)
  have n0 : decide ((a.length : Int) < 0) = false := by simp only [decide_eq_false_iff_not]; omega
  have n1 : decide ((a.length : Int) + (b.length : Int) < 0) = false := by simp only [decide_eq_false_iff_not]; omega
  have i1 : IntKind.i64.wrap (0 + 1) = 1 := by decide
  have i2 : IntKind.i64.wrap (1 + 1) = 2 := by decide
  have l1 : decide (([] : List Rg).length + a.length ≤ LIM 16) = true := by rw [LIM16]; simp only [decide_eq_true_eq, List.length_nil]; omega
  have l2 : decide (a.length + b.length ≤ LIM 16) = true := by rw [LIM16]; simp only [decide_eq_true_eq]; omega
  simp only [f114d, f114_0_def, f114_2_def, f114_1000007_def, f114_1000007d, f114_0d, f114_0b, f114_2d, f114_2b, List.length_cons, List.length_nil, i1, i2]
  simp only [show decide ((0 : Int) < ((0 + 1 + 1 : Nat) : Int)) = true from by decide, show decide ((1 : Int) < ((0 + 1 + 1 : Nat) : Int)) = true from by decide, show decide ((2 : Int) < ((0 + 1 + 1 : Nat) : Int)) = false from by decide,
    show decide ((0 : Int) ≤ 0) = true from by decide, show decide ((0 : Int) ≤ 1) = true from by decide, Bool.and_self, cond_true, cond_false, Int.toNat_zero, Int.toNat_one, List.getD_cons_zero, List.getD_cons_succ, w0, n0, w1, n1]
  rw [f132_eq (show 0 < k + 1 + 1 + 1 by omega) (by omega) (by omega)]
  simp only [List.nil_append, l1, l2, cond_true, List.length_nil]
  simp only [List.length_nil] at l1
  simp only [l1, cond_true]

theorem f86_loop (k : Nat) (x0 : List Rg → Option R) (l : List Rg) (hl : l.length ≤ 100000) : ∀ (d f i : Nat) (o : List Rg), i + d = l.length → d < f → o.length ≤ i →
    f86_0d k x0 (l.length : Int) l f (i : Int) o = x0 (swO o (l.drop i)) := by
  intro d
  induction d with
  | zero =>
    intro f i o hi hf ho
    obtain ⟨f, rfl⟩ := succ_of hf
    have h1 : decide ((i : Int) < (l.length : Int)) = false := by simp only [decide_eq_false_iff_not]; omega
    simp only [f86_0d, f86_0b, h1, cond_false]
    rw [List.drop_of_length_le (by omega)]
    rfl
  | succ d ih =>
    intro f i o hi hf ho
    obtain ⟨f, rfl⟩ := succ_of hf
    have h1 : decide ((i : Int) < (l.length : Int)) = true := by simp only [decide_eq_true_eq]; omega
    have h0 : decide ((0 : Int) ≤ (i : Int)) = true := by simp
    have hw : IntKind.i64.wrap ((i : Int) + 1) = ((i + 1 : Nat) : Int) := by rw [wi (by omega) (by omega)]; omega
    have hli : i < l.length := by omega
    have hg : l.getD (Int.toNat (i : Int)) (0, (0, ())) = l[i] := getD_in hli
    simp only [f86_0d, f86_0b, hg, h1, h0, cond_true, Bool.and_self, hw, f86_1000009_def, f86_1000009d, cond_false]
    rw [List.drop_eq_getElem_cons hli]
    refine (code_step o l[i] (by omega) (fun y => f86_0d k x0 (l.length : Int) l f ((i + 1 : Nat) : Int) y)).trans ?_
    have := stp_len o l[i]
    exact ih f (i + 1) _ (by omega) (by omega) (by omega)
noncomputable def jn (a b : List Rg) : List Rg := sweep (srtL (a ++ b))
theorem f86_eq {k : Nat} {a b : List Rg} (ha : a.length ≤ 2000) (hb : b.length ≤ 2000) (hs : sortOk (a ++ b) = true) (hk : 5000 < k) (K : List Rg → Option R) : f86 k a b K = K (jn a b) := by
  rw [f86_def]
  obtain ⟨k, rfl⟩ := succ_of (show 0 < k by omega)
  have hl : (srtL (a ++ b)).length = (a ++ b).length := srtL_len _
  have hap : (a ++ b).length = a.length + b.length := List.length_append
  simp only [f86d, f114_eq (show 5 < k by omega) a b (by omega) (by omega), f115_def]
  obtain ⟨k, rfl⟩ := succ_of (show 0 < k by omega)
  simp only [f115d, hs, cond_true, hl, decide_true, Bool.and_self, f86_0_def]
  rw [← hl]
  exact (f86_loop (k + 1) _ (srtL (a ++ b)) (by omega) (srtL (a ++ b)).length (k + 1) 0 [] (by omega) (by omega) (by simp)).trans (by rw [List.drop_zero, swO_sweep]; rfl)

/-! the reference's merging -/
def mg : Nat → List Rg → List Rg → List Rg
  | 0, _, _ => []
  | _ + 1, [], [] => []
  | n + 1, x :: a, [] => x :: mg n a []
  | n + 1, [], y :: b => y :: mg n [] b
  | n + 1, x :: a, y :: b => if x.1 ≤ y.1 then x :: mg n a (y :: b) else y :: mg n (x :: a) b
theorem mg_perm : ∀ (n : Nat) (a b : List Rg), a.length + b.length ≤ n → (mg n a b).Perm (a ++ b)
  | 0, a, b, h => by
    have h1 : a = [] := List.length_eq_zero_iff.1 (by omega)
    have h2 : b = [] := List.length_eq_zero_iff.1 (by omega)
    subst h1; subst h2; exact List.Perm.refl _
  | n + 1, [], [], h => List.Perm.refl _
  | n + 1, x :: a, [], h => by
    simp only [mg, List.cons_append]
    exact List.Perm.cons x (mg_perm n a [] (by simp only [List.length_cons, List.length_nil] at *; omega))
  | n + 1, [], y :: b, h => by
    simp only [mg, List.nil_append]
    exact List.Perm.cons y (mg_perm n [] b (by simp only [List.length_cons, List.length_nil] at *; omega))
  | n + 1, x :: a, y :: b, h => by
    simp only [mg]
    split
    · exact List.Perm.cons x (mg_perm n a (y :: b) (by simp only [List.length_cons] at *; omega))
    · exact (List.Perm.cons y (mg_perm n (x :: a) b (by simp only [List.length_cons] at *; omega))).trans List.perm_middle.symm
theorem mg_up : ∀ (n : Nat) (a b : List Rg), a.length + b.length ≤ n → Up a → Up b → Up (mg n a b)
  | 0, a, b, h, _, _ => List.Pairwise.nil
  | n + 1, [], [], h, _, _ => List.Pairwise.nil
  | n + 1, x :: a, [], h, ha, hb => by
    rw [Up, List.pairwise_cons] at ha
    simp only [mg]
    have hn : a.length + ([] : List Rg).length ≤ n := by simp only [List.length_cons, List.length_nil] at *; omega
    refine List.pairwise_cons.2 ⟨fun y hy => ?_, mg_up n a [] hn ha.2 hb⟩
    have := (mg_perm n a [] hn).mem_iff.1 hy
    rw [List.append_nil] at this
    exact ha.1 y this
  | n + 1, [], y :: b, h, ha, hb => by
    rw [Up, List.pairwise_cons] at hb
    simp only [mg]
    have hn : ([] : List Rg).length + b.length ≤ n := by simp only [List.length_cons, List.length_nil] at *; omega
    refine List.pairwise_cons.2 ⟨fun z hz => ?_, mg_up n [] b hn ha hb.2⟩
    exact hb.1 z ((mg_perm n [] b hn).mem_iff.1 hz)
  | n + 1, x :: a, y :: b, h, ha, hb => by
    have ha' := ha
    have hb' := hb
    rw [Up, List.pairwise_cons] at ha hb
    simp only [mg]
    split
    · rename_i q
      have hn : a.length + (y :: b).length ≤ n := by simp only [List.length_cons] at *; omega
      refine List.pairwise_cons.2 ⟨fun z hz => ?_, mg_up n a (y :: b) hn ha.2 hb'⟩
      rcases List.mem_append.1 ((mg_perm n a (y :: b) hn).mem_iff.1 hz) with hz | hz
      · exact ha.1 z hz
      · rcases List.mem_cons.1 hz with rfl | hz
        · exact q
        · have := hb.1 z hz; omega
    · rename_i q
      have hn : (x :: a).length + b.length ≤ n := by simp only [List.length_cons] at *; omega
      refine List.pairwise_cons.2 ⟨fun z hz => ?_, mg_up n (x :: a) b hn ha' hb.2⟩
      rcases List.mem_append.1 ((mg_perm n (x :: a) b hn).mem_iff.1 hz) with hz | hz
      · rcases List.mem_cons.1 hz with rfl | hz
        · omega
        · have := ha.1 z hz; omega
      · exact hb.1 z hz
theorem f89_loop (k : Nat) (x0 : List Rg → Option R) (a b : List Rg) (ha : a.length ≤ 2000) (hb : b.length ≤ 2000) : ∀ (d f i j : Nat) (o : List Rg), i + j + d = a.length + b.length → d < f → i ≤ a.length → j ≤ b.length → o.length ≤ i + j →
    f89_0d k x0 a b f (i : Int) (j : Int) o = x0 (swO o (mg d (a.drop i) (b.drop j))) := by
  intro d
  induction d with
  | zero =>
    intro f i j o hi hf h1 h2 ho
    obtain ⟨f, rfl⟩ := succ_of hf
    have c1 : decide ((i : Int) < (a.length : Int)) = false := by simp only [decide_eq_false_iff_not]; omega
    have c2 : decide ((j : Int) < (b.length : Int)) = false := by simp only [decide_eq_false_iff_not]; omega
    simp only [f89_0d, f89_0b, c1, c2, cond_false, beq_self_eq_true, cond_true]
    rfl
  | succ d ih =>
    intro f i j o hi hf h1 h2 ho
    obtain ⟨f, rfl⟩ := succ_of hf
    have hi0 : decide ((0 : Int) ≤ (i : Int)) = true := by simp
    have hj0 : decide ((0 : Int) ≤ (j : Int)) = true := by simp
    have wi1 : IntKind.i64.wrap ((i : Int) + 1) = ((i + 1 : Nat) : Int) := by rw [wi (by omega) (by omega)]; omega
    have wj1 : IntKind.i64.wrap ((j : Int) + 1) = ((j + 1 : Nat) : Int) := by rw [wi (by omega) (by omega)]; omega
    have fin1 : ∀ x : Rg, i < a.length → f89_0d k x0 a b f ((i + 1 : Nat) : Int) (j : Int) (stp o x) = x0 (swO (stp o x) (mg d (a.drop (i + 1)) (b.drop j))) := fun x hlt => by
      have := stp_len o x
      exact ih f (i + 1) j _ (by omega) (by omega) (by omega) h2 (by omega)
    have fin2 : ∀ x : Rg, j < b.length → f89_0d k x0 a b f (i : Int) ((j + 1 : Nat) : Int) (stp o x) = x0 (swO (stp o x) (mg d (a.drop i) (b.drop (j + 1)))) := fun x hlt => by
      have := stp_len o x
      exact ih f i (j + 1) _ (by omega) (by omega) h1 (by omega) (by omega)
    by_cases hi1 : i < a.length
    · have c1 : decide ((i : Int) < (a.length : Int)) = true := by simp only [decide_eq_true_eq]; omega
      have ga : a.getD (Int.toNat (i : Int)) (0, (0, ())) = a[i] := getD_in hi1
      rw [List.drop_eq_getElem_cons hi1]
      by_cases hj1 : j < b.length
      · have c2 : decide ((j : Int) < (b.length : Int)) = true := by simp only [decide_eq_true_eq]; omega
        have c3 : ((j : Int) == (b.length : Int)) = false := by rw [beq_dec]; simp only [decide_eq_false_iff_not]; omega
        have gb : b.getD (Int.toNat (j : Int)) (0, (0, ())) = b[j] := getD_in hj1
        rw [List.drop_eq_getElem_cons hj1]
        simp only [mg]
        simp only [f89_0d, f89_0b, c1, c2, c3, hi0, hj0, ga, gb, wi1, wj1, show (true == false) = false from rfl, beq_self_eq_true, cond_true, cond_false, Bool.and_self, f89_1000006_def, f89_1000006d, f89_1000012_def, f89_1000012d]
        by_cases q : (a[i]).1 ≤ (b[j]).1
        · rw [if_pos q]
          simp only [q, decide_true, cond_true, swO]
          refine (code_step o a[i] (by omega) (fun y => f89_0d k x0 a b f ((i + 1 : Nat) : Int) (j : Int) y)).trans ?_
          rw [fin1 _ hi1, List.drop_eq_getElem_cons hj1]
        · rw [if_neg q]
          simp only [q, decide_false, cond_false, swO]
          refine (code_step o b[j] (by omega) (fun y => f89_0d k x0 a b f (i : Int) ((j + 1 : Nat) : Int) y)).trans ?_
          rw [fin2 _ hj1, List.drop_eq_getElem_cons hi1]
      · have c2 : decide ((j : Int) < (b.length : Int)) = false := by simp only [decide_eq_false_iff_not]; omega
        have c3 : ((j : Int) == (b.length : Int)) = true := by rw [beq_dec]; simp only [decide_eq_true_eq]; omega
        have hbn : b.drop j = [] := List.drop_of_length_le (by omega)
        rw [hbn]
        simp only [mg]
        simp only [f89_0d, f89_0b, c1, c2, c3, hi0, hj0, ga, wi1, wj1, show (true == false) = false from rfl, beq_self_eq_true, cond_true, cond_false, Bool.and_self, f89_1000006_def, f89_1000006d, f89_1000012_def, f89_1000012d, swO]
        refine (code_step o a[i] (by omega) (fun y => f89_0d k x0 a b f ((i + 1 : Nat) : Int) (j : Int) y)).trans ?_
        rw [fin1 _ hi1, hbn]
    · have c1 : decide ((i : Int) < (a.length : Int)) = false := by simp only [decide_eq_false_iff_not]; omega
      have hj1 : j < b.length := by omega
      have c2 : decide ((j : Int) < (b.length : Int)) = true := by simp only [decide_eq_true_eq]; omega
      have c3 : ((j : Int) == (b.length : Int)) = false := by rw [beq_dec]; simp only [decide_eq_false_iff_not]; omega
      have gb : b.getD (Int.toNat (j : Int)) (0, (0, ())) = b[j] := getD_in hj1
      have han : a.drop i = [] := List.drop_of_length_le (by omega)
      rw [han, List.drop_eq_getElem_cons hj1]
      simp only [mg]
      simp only [f89_0d, f89_0b, c1, c2, c3, hi0, hj0, gb, wi1, wj1, show (false == true) = false from rfl, beq_self_eq_true, cond_true, cond_false, Bool.and_self, f89_1000006_def, f89_1000006d, f89_1000012_def, f89_1000012d, swO]
      refine (code_step o b[j] (by omega) (fun y => f89_0d k x0 a b f (i : Int) ((j + 1 : Nat) : Int) y)).trans ?_
      rw [fin2 _ hj1, han]
theorem f89_eq {k : Nat} {a b : List Rg} (ha : a.length ≤ 2000) (hb : b.length ≤ 2000) (hk : 5000 < k) (K : List Rg → Option R) : f89 k a b K = K (sweep (mg (a.length + b.length) a b)) := by
  rw [f89_def]
  obtain ⟨k, rfl⟩ := succ_of (show 0 < k by omega)
  simp only [f89d, f89_0_def]
  exact (f89_loop k _ a b ha hb (a.length + b.length) k 0 0 [] (by omega) (by omega) (by omega) (by omega) (by simp)).trans (by rw [List.drop_zero, List.drop_zero, swO_sweep])

/-! what is checked -/
theorem rgF_can {lim : Int} : ∀ {p : Option Int} {l : List Rg}, rgF lim p l = 0 → Can (p.getD (-1)) l
  | _, [], _ => trivial
  | p, y :: l, h => by
    simp only [rgF] at h
    by_cases q1 : y.1 < 0
    · simp [q1] at h
    by_cases q2 : y.2.1 > lim
    · simp [q1, q2] at h
    by_cases q3 : y.2.1 ≤ y.1
    · simp [q1, q2, q3] at h
    cases p with
    | none => exact ⟨by show (-1 : Int) < y.1; omega, by omega, rgF_can (p := some y.2.1) (by simpa [q1, q2, q3] using h)⟩
    | some e =>
      by_cases q4 : y.1 ≤ e
      · simp [q1, q2, q3, q4] at h
      · exact ⟨by show e < y.1; omega, by omega, rgF_can (p := some y.2.1) (by simpa [q1, q2, q3, q4] using h)⟩
theorem can_rgF {lim : Int} : ∀ {p : Option Int} {l : List Rg}, (∀ e, p = some e → -1 ≤ e) → Can (p.getD (-1)) l → (∀ x ∈ l, x.2.1 ≤ lim) → rgF lim p l = 0
  | _, [], _, _, _ => rfl
  | p, y :: l, hp, ⟨h1, h2, h3⟩, hl => by
    have hy := hl y (by simp)
    have hy0 : 0 ≤ y.1 := by
      cases p with
      | none => have h1' : (-1 : Int) < y.1 := h1; omega
      | some e => have := hp e rfl; have h1' : e < y.1 := h1; omega
    have ih := can_rgF (p := some y.2.1) (l := l) (fun e he => by cases he; omega) h3 (fun x hx => hl x (by simp [hx]))
    have q1 : ¬ y.1 < 0 := by omega
    have q2 : ¬ y.2.1 > lim := by omega
    have q3 : ¬ y.2.1 ≤ y.1 := by omega
    cases p with
    | none => simp [rgF, q1, q2, q3, ih]
    | some e =>
      have h1' : e < y.1 := h1
      have q4 : ¬ y.1 ≤ e := by omega
      simp [rgF, q1, q2, q3, q4, ih]
structure LOk (lim : Int) (l : List Rg) : Prop where
  bnd : 0 ≤ lim ∧ lim ≤ 100000
  len : l.length ≤ 2000
  can : Can (-1) l
  upto : ∀ x ∈ l, x.2.1 ≤ lim
theorem chk_ok {lim : Int} {l : List Rg} (h : chkRgs l lim = 0) : LOk lim l := by
  unfold chkRgs at h
  by_cases h1 : inB lim 0 100000 = false
  · simp [h1] at h
  · by_cases h2 : 2000 < l.length
    · simp [h1, h2] at h
    · simp only [h1, h2, if_false] at h
      refine ⟨inB_iff.1 (by simpa using h1), by omega, rgF_can (p := none) h, fun x hx => ?_⟩
      have : ∀ (a : Int) (m : List Rg), Srt lim a m → ∀ y ∈ m, y.2.1 ≤ lim := by
        intro a m
        induction m generalizing a with
        | nil => intro _ y hy; cases hy
        | cons z m ih =>
          rintro ⟨s1, s2, s3, s4⟩ y hy
          rcases List.mem_cons.1 hy with rfl | hy
          · exact s3
          · exact ih _ s4 y hy
      exact this _ l (rgF_srt (p := none) h) x hx
theorem ok_chk {lim : Int} {l : List Rg} (h : LOk lim l) : chkRgs l lim = 0 := by
  unfold chkRgs
  have h1 : inB lim 0 100000 = true := inB_iff.2 h.bnd
  rw [h1, if_neg (by simp), if_neg (by have := h.len; omega)]
  exact can_rgF (p := none) (fun e he => by cases he) h.can h.upto
theorem LOk.ne {lim : Int} {l : List Rg} (h : LOk lim l) : Ne l := fun x hx => (can_low h.can x hx).2
theorem LOk.low {lim : Int} {l : List Rg} (h : LOk lim l) : ∀ x ∈ l, -1 < x.1 := fun x hx => (can_low h.can x hx).1
theorem can_up : ∀ {a : Int} {l : List Rg}, Can a l → Up l
  | _, [], _ => List.Pairwise.nil
  | a, x :: l, ⟨h1, h2, h3⟩ => List.pairwise_cons.2 ⟨fun y hy => by have := (can_low h3 y hy).1; omega, can_up h3⟩
theorem sortOk_of {lim : Int} {a b : List Rg} (ha : LOk lim a) (hb : LOk lim b) : sortOk (a ++ b) = true := by
  have l1 := ha.len
  have l2 := hb.len
  have hlim := ha.bnd
  simp only [sortOk, Bool.and_eq_true, List.all_eq_true, decide_eq_true_eq, List.length_append]
  refine ⟨fun x hx => ?_, by omega⟩
  have : -1 < x.1 ∧ x.1 < x.2.1 ∧ x.2.1 ≤ lim := by
    rcases List.mem_append.1 hx with hx | hx
    · exact ⟨ha.low x hx, ha.ne x hx, ha.upto x hx⟩
    · exact ⟨hb.low x hx, hb.ne x hx, hb.upto x hx⟩
  simp only [spOk, Bool.and_eq_true, decide_eq_true_eq]
  omega
section
variable {lim : Int} {a b : List Rg}
theorem jn_perm (ha : LOk lim a) (hb : LOk lim b) : (srtL (a ++ b)).Perm (a ++ b) := srtL_perm (sortOk_of ha hb)
theorem jn_facts (ha : LOk lim a) (hb : LOk lim b) : Ne (srtL (a ++ b)) ∧ (∀ x ∈ srtL (a ++ b), -1 < x.1) := by
  have hp := jn_perm ha hb
  refine ⟨fun x hx => ?_, fun x hx => ?_⟩
  · rcases List.mem_append.1 (hp.mem_iff.1 hx) with h | h
    · exact ha.ne x h
    · exact hb.ne x h
  · rcases List.mem_append.1 (hp.mem_iff.1 hx) with h | h
    · exact ha.low x h
    · exact hb.low x h
theorem jn_can (ha : LOk lim a) (hb : LOk lim b) : Can (-1) (jn a b) := sweep_can (jn_facts ha hb).2 (jn_facts ha hb).1 (srtL_asc _)
theorem jn_in (ha : LOk lim a) (hb : LOk lim b) (j : Int) : inR (jn a b) j ↔ (inR a j ∨ inR b j) := by
  unfold jn
  rw [sweep_in (jn_facts ha hb).1 (srtL_asc _), inR_perm (jn_perm ha hb), inR_app]
theorem jn_to (ha : LOk lim a) (hb : LOk lim b) : ∀ x ∈ jn a b, x.2.1 ≤ lim := by
  intro x hx
  have hx2 := can_low (jn_can ha hb) x hx
  have := (jn_in ha hb (x.2.1 - 1)).1 ⟨x, hx, by omega, by omega⟩
  rcases this with ⟨y, hy, h1, h2⟩ | ⟨y, hy, h1, h2⟩
  · have := ha.upto y hy; omega
  · have := hb.upto y hy; omega
theorem jn_ok (ha : LOk lim a) (hb : LOk lim b) (hl : (jn a b).length ≤ 2000) : LOk lim (jn a b) := ⟨ha.bnd, hl, jn_can ha hb, jn_to ha hb⟩
theorem jn_mg (ha : LOk lim a) (hb : LOk lim b) : sweep (mg (a.length + b.length) a b) = jn a b := by
  have hp := mg_perm (a.length + b.length) a b (Nat.le_refl _)
  have hu := mg_up (a.length + b.length) a b (Nat.le_refl _) (can_up ha.can) (can_up hb.can)
  have hn : Ne (mg (a.length + b.length) a b) := fun x hx => by
    rcases List.mem_append.1 (hp.mem_iff.1 hx) with h | h
    · exact ha.ne x h
    · exact hb.ne x h
  have hlow : ∀ x ∈ mg (a.length + b.length) a b, -1 < x.1 := fun x hx => by
    rcases List.mem_append.1 (hp.mem_iff.1 hx) with h | h
    · exact ha.low x h
    · exact hb.low x h
  refine can_eq (a := -1) (sweep_can hlow hn hu) (jn_can ha hb) fun j => ?_
  rw [sweep_in hn hu, inR_perm hp, inR_app, jn_in ha hb]
end
noncomputable def jnF (a b : List Rg) (n : Int) : Int × List Rg := if chkRgs a n ≠ 0 then (chkRgs a n, []) else if chkRgs b n ≠ 0 then (chkRgs b n, []) else if 2000 < (jn a b).length then (2, []) else (0, jn a b)
theorem d2000 (n : Nat) : decide ((n : Int) > 2000) = decide (2000 < n) := by rw [Bool.eq_iff_iff]; simp only [decide_eq_true_eq]; omega
noncomputable def hlF (a : List Rg) (n : Int) : Int × List Rg := if chkRgs a n ≠ 0 then (chkRgs a n, []) else if 2000 < (holesF a n).length then (2, []) else (0, holesF a n)
theorem jnF_len (a b : List Rg) (n : Int) : (jnF a b n).2.length ≤ 2000 := by
  unfold jnF
  split
  · simp
  · split
    · simp
    · split
      · simp
      · show (jn a b).length ≤ 2000; omega
theorem hlF_len (a : List Rg) (n : Int) : (hlF a n).2.length ≤ 2000 := by
  unfold hlF
  split
  · simp
  · split
    · simp
    · show (holesF a n).length ≤ 2000; omega
end Go.Proofs.Ytlcklflbhhnnhaa.PM

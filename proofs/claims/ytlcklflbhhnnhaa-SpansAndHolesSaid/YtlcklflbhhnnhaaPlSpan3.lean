/- Plain laws of spans: joining is even, spans and holes make the whole. -/
import Derived.Test.YtlcklflbhhnnhaaPlSpan2
set_option linter.unusedSimpArgs false
set_option linter.unusedVariables false
namespace Go.Proofs.Ytlcklflbhhnnhaa.PM
open Go Go.Proofs.Ytlcklflbhhnnhaa.Bt
variable {R : Type}

/-! how many places spans have -/
def hold : List Rg → Int
  | [] => 0
  | x :: l => (x.2.1 - x.1) + hold l
theorem hold_app : ∀ (l m : List Rg), hold (l ++ m) = hold l + hold m
  | [], m => by simp [hold]
  | x :: l, m => by simp only [List.cons_append, hold, hold_app l m]; omega
theorem hold_perm {l m : List Rg} (h : l.Perm m) : hold l = hold m := by
  induction h with
  | nil => rfl
  | cons x _ ih => simp only [hold, ih]
  | swap x y l => simp only [hold]; omega
  | trans _ _ h1 h2 => rw [h1, h2]
theorem swl_hold : ∀ (c : Rg) (l : List Rg), Ne l → (∀ x ∈ l, c.1 ≤ x.1) → Up l → hold (swl c l) ≤ (c.2.1 - c.1) + hold l
  | c, [], _, _, _ => by simp only [swl, hold]; omega
  | c, x :: l, hn, hc, hu => by
    have hx := hn x (by simp)
    have hcx := hc x (by simp)
    rw [Up, List.pairwise_cons] at hu
    simp only [swl]
    split
    · have ih := swl_hold (c.1, (mxI c.2.1 x.2.1, ())) l (fun y hy => hn y (by simp [hy])) (fun y hy => hc y (by simp [hy])) hu.2
      have hm : mxI c.2.1 x.2.1 ≤ c.2.1 + (x.2.1 - x.1) := by unfold mxI; split <;> omega
      have ih' : hold (swl (c.1, (mxI c.2.1 x.2.1, ())) l) ≤ (mxI c.2.1 x.2.1 - c.1) + hold l := ih
      simp only [hold]
      omega
    · have ih := swl_hold x l (fun y hy => hn y (by simp [hy])) (fun y hy => hu.1 y hy) hu.2
      simp only [hold]
      omega
theorem sweep_hold {l : List Rg} (hn : Ne l) (hu : Up l) : hold (sweep l) ≤ hold l := by
  cases l with
  | nil => exact Int.le_refl _
  | cons x l =>
    have hu' := hu
    rw [Up, List.pairwise_cons] at hu'
    exact swl_hold x l (fun y hy => hn y (by simp [hy])) hu'.1 hu'.2
theorem hold_bounds : ∀ {l : List Rg} {lim : Int}, (∀ x ∈ l, -1 < x.1 ∧ x.1 < x.2.1 ∧ x.2.1 ≤ lim) → 0 ≤ lim → 0 ≤ hold l ∧ hold l ≤ l.length * lim
  | [], lim, _, h0 => by simp [hold]
  | x :: l, lim, h, h0 => by
    have hx := h x (by simp)
    have ih := hold_bounds (l := l) (fun y hy => h y (by simp [hy])) h0
    simp only [hold, List.length_cons]
    have e : (((l.length + 1 : Nat)) : Int) * lim = l.length * lim + lim := by rw [Int.natCast_add, Int.add_mul]; simp
    rw [e]
    omega
theorem LOk.all {lim : Int} {l : List Rg} (h : LOk lim l) : ∀ x ∈ l, -1 < x.1 ∧ x.1 < x.2.1 ∧ x.2.1 ≤ lim := fun x hx => ⟨h.low x hx, h.ne x hx, h.upto x hx⟩
theorem f41_loop (k : Nat) (x0 : Int → Option R) (l : List Rg) (hl : l.length ≤ 2001) (hall : ∀ x ∈ l, -1 < x.1 ∧ x.1 < x.2.1 ∧ x.2.1 ≤ 100000) : ∀ (d f i : Nat) (v : Int), i + d = l.length → d < f → 0 ≤ v → v ≤ i * 100000 →
    f41_0d k x0 l f v (i : Int) = x0 (v + hold (l.drop i)) := by
  intro d
  induction d with
  | zero =>
    intro f i v hi hf h0 h1
    obtain ⟨f, rfl⟩ := succ_of hf
    have c1 : decide ((i : Int) < (l.length : Int)) = false := by simp only [decide_eq_false_iff_not]; omega
    simp only [f41_0d, f41_0b, c1, cond_false]
    rw [List.drop_of_length_le (by omega)]
    simp [hold]
  | succ d ih =>
    intro f i v hi hf h0 h1
    obtain ⟨f, rfl⟩ := succ_of hf
    have c1 : decide ((i : Int) < (l.length : Int)) = true := by simp only [decide_eq_true_eq]; omega
    have c0 : decide ((0 : Int) ≤ (i : Int)) = true := by simp
    have hw : IntKind.i64.wrap ((i : Int) + 1) = ((i + 1 : Nat) : Int) := by rw [wi (by omega) (by omega)]; omega
    have hli : i < l.length := by omega
    have hg : l.getD (Int.toNat (i : Int)) (0, (0, ())) = l[i] := getD_in hli
    obtain ⟨x1, x2, x3⟩ := hall _ (List.getElem_mem hli)
    simp only [f41_0d, f41_0b, hg, c1, c0, cond_true, Bool.and_self, hw]
    rw [wi (n := (l[i]).2.1 - (l[i]).1) (by omega) (by omega), wi (n := v + _) (by omega) (by omega), ih f (i + 1) _ (by omega) (by omega) (by omega) (by omega), List.drop_eq_getElem_cons hli]
    simp only [hold]
    rw [Int.add_assoc]
theorem f41_eq {k : Nat} {l : List Rg} {lim : Int} (h : LOk lim l) (hk : 2010 < k) (K : Int → Option R) : f41 k l K = K (hold l) := by
  rw [f41_def]
  obtain ⟨k, rfl⟩ := succ_of (show 0 < k by omega)
  have hl := h.len
  have hb := h.bnd
  simp only [f41d, f41_0_def]
  exact (f41_loop k _ l (by omega) (fun x hx => by have := h.all x hx; omega) l.length k 0 0 (by omega) (by omega) (by omega) (by omega)).trans (by rw [List.drop_zero, Int.zero_add])
section
variable {lim : Int} {a b : List Rg}
theorem jn_hold (ha : LOk lim a) (hb : LOk lim b) : hold (jn a b) ≤ hold a + hold b := by
  have h1 := sweep_hold (jn_facts ha hb).1 (srtL_asc (a ++ b))
  rw [hold_perm (jn_perm ha hb), hold_app] at h1
  exact h1
theorem jn_comm (ha : LOk lim a) (hb : LOk lim b) : jn a b = jn b a :=
  can_eq (jn_can ha hb) (jn_can hb ha) fun j => by rw [jn_in ha hb, jn_in hb ha, or_comm]
theorem jn_self (ha : LOk lim a) : jn a a = a :=
  can_eq (jn_can ha ha) ha.can fun j => by rw [jn_in ha ha, or_self]
theorem jn_again (ha : LOk lim a) (hb : LOk lim b) (hl : (jn a b).length ≤ 2000) : jn (jn a b) a = jn a b :=
  can_eq (jn_can (jn_ok ha hb hl) ha) (jn_can ha hb) fun j => by
    rw [jn_in (jn_ok ha hb hl) ha, jn_in ha hb]
    constructor
    · rintro ((h | h) | h)
      · exact Or.inl h
      · exact Or.inr h
      · exact Or.inl h
    · intro h; exact Or.inl h
theorem jnF_ok (ha : LOk lim a) (hb : LOk lim b) (hl : (jn a b).length ≤ 2000) : jnF a b lim = (0, jn a b) := by
  unfold jnF
  rw [if_neg (not_not_intro (ok_chk ha)), if_neg (not_not_intro (ok_chk hb)), if_neg (by omega)]
end
theorem jnF_zero {a b : List Rg} {n : Int} (h : (jnF a b n).1 = 0) : LOk n a ∧ LOk n b ∧ (jn a b).length ≤ 2000 := by
  unfold jnF at h
  by_cases h1 : chkRgs a n = 0
  · by_cases h2 : chkRgs b n = 0
    · rw [if_neg (not_not_intro h1), if_neg (not_not_intro h2)] at h
      split at h
      · cases h
      · exact ⟨chk_ok h1, chk_ok h2, by omega⟩
    · rw [if_neg (not_not_intro h1), if_pos h2] at h; exact absurd h h2
  · rw [if_pos h1] at h; exact absurd h h1
theorem jnF_bad {a b : List Rg} {n : Int} (h : (jnF a b n).1 ≠ 0) : (jnF a b n).2 = [] := by
  unfold jnF at h ⊢
  split
  · rfl
  · split
    · rfl
    · split
      · rfl
      · rename_i h1 h2 h3
        rw [if_neg h1, if_neg h2, if_neg h3] at h; exact absurd rfl h
theorem f6_eq {k : Nat} {a b : List Rg} (n : Int) (hk : a.length + b.length + 8000 < k) (K : Bool → Option R) : f6 k a b n K = K true := by
  rw [f6_def]
  obtain ⟨k, rfl⟩ := succ_of (show 0 < k by omega)
  have l1 := jnF_len a b n
  simp only [f6d, f39_eq (a := a) (b := b) n (show a.length + b.length + 5010 < k by omega)]
  by_cases h : (jnF a b n).1 = 0
  · obtain ⟨ha, hb, hl⟩ := jnF_zero h
    have hx := jn_ok ha hb hl
    have e1 := jnF_ok ha hb hl
    have hl2 : (jn b a).length ≤ 2000 := by rw [← jn_comm ha hb]; exact hl
    have e2 := jnF_ok hb ha hl2
    have hl3 : (jn (jn a b) a).length ≤ 2000 := by rw [jn_again ha hb hl]; exact hl
    have e3 := jnF_ok hx ha hl3
    have hl4 : (jn a a).length ≤ 2000 := by rw [jn_self ha]; exact ha.len
    have e4 := jnF_ok ha ha hl4
    have la := ha.len
    have lb := hb.len
    have hlim := ha.bnd
    have b1 := hold_bounds ha.all hlim.1
    have b2 := hold_bounds hb.all hlim.1
    have hmul1 : (a.length : Int) * n ≤ 2000 * 100000 := Int.mul_le_mul (by omega) hlim.2 hlim.1 (by omega)
    have hmul2 : (b.length : Int) * n ≤ 2000 * 100000 := Int.mul_le_mul (by omega) hlim.2 hlim.1 (by omega)
    have hh := jn_hold ha hb
    rw [e1]
    simp only [bne_self_eq_false, cond_false, f39_eq (a := b) (b := a) n (show b.length + a.length + 5010 < k by omega), f39_eq (a := jn a b) (b := a) n (show (jn a b).length + a.length + 5010 < k by omega),
      f39_eq (a := a) (b := a) n (show a.length + a.length + 5010 < k by omega), e2, e3, e4, beq_self_eq_true, cond_true, ← jn_comm ha hb, jn_again ha hb hl, jn_self ha,
      f40_refl (l := jn a b) (show (jn a b).length + 1 < k by omega) (by omega), f40_refl (l := a) (show a.length + 1 < k by omega) (by omega), f41_eq hx (show 2010 < k by omega), f41_eq ha (show 2010 < k by omega), f41_eq hb (show 2010 < k by omega)]
    have hd : decide (hold (jn a b) ≤ IntKind.i64.wrap (hold a + hold b)) = true := by rw [wi (by omega) (by omega)]; simp only [decide_eq_true_eq]; exact hh
    simp only [hd, beq_self_eq_true, cond_true, f24_eq (show 20 < k by omega)]
  · have h' : ((jnF a b n).1 != 0) = true := by simp [h]
    simp only [h', cond_true, jnF_bad h, List.length_nil, f24_eq (show 20 < k by omega)]
    rfl

/-! spans and holes -/
theorem preF_can : ∀ {s : Int} {l : List Rg} {a : Int}, a < s → Can s l ∨ (∃ x m, l = x :: m ∧ s ≤ x.1 ∧ x.1 < x.2.1 ∧ Can x.2.1 m) → Can a (preF s l)
  | s, [], a, _, _ => trivial
  | s, x :: l, a, ha, h => by
    have hx : s ≤ x.1 ∧ x.1 < x.2.1 ∧ Can x.2.1 l := by
      rcases h with ⟨h1, h2, h3⟩ | ⟨y, m, e, h1, h2, h3⟩
      · exact ⟨by omega, h2, h3⟩
      · cases e; exact ⟨h1, h2, h3⟩
    simp only [preF]
    split
    · rename_i q
      exact ⟨ha, q, preF_can (s := x.2.1) (a := x.1) (by omega) (Or.inl hx.2.2)⟩
    · rw [List.nil_append]
      exact preF_can (s := x.2.1) (a := a) (by omega) (Or.inl hx.2.2)
theorem can_app : ∀ {a : Int} {l : List Rg} {x : Rg}, Can a l → (∀ y ∈ l, y.2.1 < x.1) → a < x.1 → x.1 < x.2.1 → Can a (l ++ [x])
  | a, [], x, _, _, h1, h2 => ⟨h1, h2, trivial⟩
  | a, y :: l, x, ⟨h1, h2, h3⟩, hy, _, h4 => ⟨h1, h2, can_app h3 (fun z hz => hy z (by simp [hz])) (hy y (by simp)) h4⟩
theorem can_srt {lim : Int} : ∀ {s : Int} {l : List Rg}, Can s l → (∀ x ∈ l, x.2.1 ≤ lim) → Srt lim s l
  | _, [], _, _ => trivial
  | s, x :: l, ⟨h1, h2, h3⟩, h => ⟨by omega, h2, h x (by simp), can_srt h3 (fun y hy => h y (by simp [hy]))⟩
theorem LOk.srt {lim : Int} {l : List Rg} (h : LOk lim l) : Srt lim 0 l := by
  cases l with
  | nil => trivial
  | cons x l =>
    obtain ⟨h1, h2, h3⟩ := h.can
    exact ⟨by omega, h2, h.upto x (by simp), can_srt h3 (fun y hy => h.upto y (by simp [hy]))⟩
theorem preF_gap {lim : Int} : ∀ {s : Int} {l : List Rg}, Srt lim s l → l ≠ [] → ∀ h ∈ preF s l, h.2.1 < lastT s l
  | s, [], _, hne, _, _ => absurd rfl hne
  | s, x :: l, ⟨h1, h2, h3, h4⟩, _, h, hh => by
    have hb := (lastT_bounds h4).1
    simp only [preF] at hh
    simp only [lastT]
    rcases List.mem_append.1 hh with hh | hh
    · split at hh
      · rw [List.mem_singleton] at hh; subst hh; show x.1 < _; omega
      · cases hh
    · cases l with
      | nil => cases hh
      | cons y m => exact preF_gap h4 (by simp) h hh
theorem holes_can {lim : Int} {a : List Rg} (ha : LOk lim a) : Can (-1) (holesF a lim) := by
  have hs := ha.srt
  have hp : Can (-1) (preF 0 a) := by
    cases a with
    | nil => trivial
    | cons x l =>
      obtain ⟨h1, h2, h3⟩ := ha.can
      exact preF_can (by omega) (Or.inr ⟨x, l, rfl, by omega, h2, h3⟩)
  unfold holesF
  split
  · rename_i q
    refine can_app hp (fun y hy => ?_) ?_ q
    · cases a with
      | nil => cases hy
      | cons x l => exact preF_gap hs (by simp) y hy
    · have := (lastT_bounds hs).1
      show (-1 : Int) < lastT 0 a
      omega
  · rw [List.append_nil]; exact hp
theorem srt_last {lim : Int} : ∀ {s : Int} {l : List Rg}, Srt lim s l → ∀ x ∈ l, x.2.1 ≤ lastT s l
  | _, [], _, x, hx => by cases hx
  | s, y :: l, ⟨h1, h2, h3, h4⟩, x, hx => by
    simp only [lastT]
    rcases List.mem_cons.1 hx with rfl | hx
    · exact (lastT_bounds h4).1
    · exact srt_last h4 x hx
theorem holes_in {lim : Int} {a : List Rg} (ha : LOk lim a) (j : Int) : inR (holesF a lim) j ↔ (0 ≤ j ∧ j < lim ∧ ¬ inR a j) := by
  have hs := ha.srt
  obtain ⟨b1, b2⟩ := lastT_bounds hs
  have b3 := b2 ha.bnd.1
  unfold holesF
  rw [inR_app, preF_mem hs j]
  have hno : lastT 0 a ≤ j → ¬ inR a j := by
    rintro hj ⟨x, hx, h1, h2⟩
    have := srt_last hs x hx
    omega
  by_cases q : lastT 0 a < lim
  · rw [if_pos q, inR_cons]
    have hn : ¬ inR ([] : List Rg) j := by rintro ⟨x, hx, _⟩; cases hx
    constructor
    · rintro (⟨h1, h2, h3⟩ | h | h)
      · exact ⟨h1, by omega, h3⟩
      · have h1 : lastT 0 a ≤ j := h.1
        have h2 : j < lim := h.2
        exact ⟨by omega, h2, hno h1⟩
      · exact absurd h hn
    · rintro ⟨h1, h2, h3⟩
      by_cases c : j < lastT 0 a
      · exact Or.inl ⟨h1, c, h3⟩
      · exact Or.inr (Or.inl ⟨by show lastT 0 a ≤ j; omega, h2⟩)
  · rw [if_neg q]
    have hn : ¬ inR ([] : List Rg) j := by rintro ⟨x, hx, _⟩; cases hx
    constructor
    · rintro (⟨h1, h2, h3⟩ | h)
      · exact ⟨h1, by omega, h3⟩
      · exact absurd h hn
    · rintro ⟨h1, h2, h3⟩
      exact Or.inl ⟨h1, by omega, h3⟩
theorem holes_ok {lim : Int} {a : List Rg} (ha : LOk lim a) (hl : (holesF a lim).length ≤ 2000) : LOk lim (holesF a lim) := by
  refine ⟨ha.bnd, hl, holes_can ha, fun x hx => ?_⟩
  have h := can_low (holes_can ha) x hx
  have := (holes_in ha (x.2.1 - 1)).1 ⟨x, hx, by omega, by omega⟩
  omega
theorem holes_holes {lim : Int} {a : List Rg} (ha : LOk lim a) (hl : (holesF a lim).length ≤ 2000) : holesF (holesF a lim) lim = a := by
  have hx := holes_ok ha hl
  refine can_eq (holes_can hx) ha.can fun j => ?_
  rw [holes_in hx, holes_in ha]
  constructor
  · rintro ⟨h1, h2, h3⟩
    exact Classical.byContradiction fun h => h3 ⟨h1, h2, h⟩
  · intro h
    obtain ⟨x, hx1, h1, h2⟩ := id h
    have := ha.all x hx1
    exact ⟨by omega, by omega, fun q => q.2.2 h⟩
def whole (lim : Int) : List Rg := if 0 < lim then [(0, (lim, ()))] else []
theorem whole_in {lim j : Int} : inR (whole lim) j ↔ 0 ≤ j ∧ j < lim := by
  have hn : ¬ inR ([] : List Rg) j := by rintro ⟨x, hx, _⟩; cases hx
  unfold whole
  split
  · rw [inR_cons]
    constructor
    · rintro (h | h)
      · exact h
      · exact absurd h hn
    · intro h; exact Or.inl h
  · constructor
    · intro h; exact absurd h hn
    · intro h; omega
theorem jn_whole {lim : Int} {a : List Rg} (ha : LOk lim a) (hl : (holesF a lim).length ≤ 2000) : jn a (holesF a lim) = whole lim := by
  have hx := holes_ok ha hl
  refine can_eq (jn_can ha hx) ?_ fun j => ?_
  · unfold whole
    split
    · rename_i q; exact ⟨by show (-1 : Int) < 0; omega, q, trivial⟩
    · trivial
  · rw [jn_in ha hx, holes_in ha, whole_in]
    constructor
    · rintro (⟨x, hx1, h1, h2⟩ | h)
      · have := ha.all x hx1; omega
      · exact ⟨h.1, h.2.1⟩
    · intro h
      by_cases q : inR a j
      · exact Or.inl q
      · exact Or.inr ⟨h.1, h.2, q⟩
theorem preF_hold : ∀ {lim s : Int} {l : List Rg}, Srt lim s l → hold (preF s l) + hold l = lastT s l - s
  | _, s, [], _ => by simp [preF, hold, lastT]
  | lim, s, x :: l, ⟨h1, h2, h3, h4⟩ => by
    have ih := preF_hold h4
    simp only [preF, hold, lastT]
    rw [hold_app]
    split
    · simp only [hold]; omega
    · simp only [hold]; omega
theorem holes_hold {lim : Int} {a : List Rg} (ha : LOk lim a) : hold a + hold (holesF a lim) = lim := by
  have h := preF_hold ha.srt
  have b := (lastT_bounds ha.srt).2 ha.bnd.1
  unfold holesF
  rw [hold_app]
  split
  · simp only [hold]; omega
  · simp only [hold]; omega
theorem hlF_zero {a : List Rg} {n : Int} (h : (hlF a n).1 = 0) : LOk n a ∧ (holesF a n).length ≤ 2000 ∧ hlF a n = (0, holesF a n) := by
  unfold hlF at h ⊢
  by_cases h1 : chkRgs a n = 0
  · rw [if_neg (not_not_intro h1)] at h ⊢
    split at h
    · cases h
    · rename_i h2
      rw [if_neg h2]
      exact ⟨chk_ok h1, by omega, rfl⟩
  · rw [if_pos h1] at h; exact absurd h h1
theorem hlF_bad {a : List Rg} {n : Int} (h : (hlF a n).1 ≠ 0) : (hlF a n).2 = [] := by
  unfold hlF at h ⊢
  split
  · rfl
  · split
    · rfl
    · rename_i h1 h2
      rw [if_neg h1, if_neg h2] at h; exact absurd rfl h
theorem f8_eq {k : Nat} {a : List Rg} (n : Int) (hk : a.length + 12000 < k) (K : Bool → Option R) : f8 k a n K = K true := by
  rw [f8_def]
  obtain ⟨k, rfl⟩ := succ_of (show 0 < k by omega)
  simp only [f8d, f42_eq (a := a) n (show a.length + 5010 < k by omega)]
  by_cases h : (hlF a n).1 = 0
  · obtain ⟨ha, hl, e⟩ := hlF_zero h
    have hx := holes_ok ha hl
    have la := ha.len
    have hlim := ha.bnd
    have ew := jn_whole ha hl
    have hwl : (whole n).length ≤ 1 := by unfold whole; split <;> simp
    have e1 := jnF_ok ha hx (by rw [ew]; omega)
    have e2 : hlF (holesF a n) n = (0, a) := by
      unfold hlF
      rw [if_neg (not_not_intro (ok_chk hx)), holes_holes ha hl, if_neg (by omega)]
    have hwo : LOk n (whole n) := by
      have := jn_ok ha hx (by rw [ew]; omega)
      rw [ew] at this
      exact this
    have hh := holes_hold ha
    have hwh : hold (whole n) = n := by
      unfold whole
      split
      · simp [hold]
      · simp [hold]; omega
    rw [e]
    simp only [bne_self_eq_false, cond_false, f39_eq (a := a) (b := holesF a n) n (show a.length + (holesF a n).length + 5010 < k by omega), f42_eq (a := holesF a n) n (show (holesF a n).length + 5010 < k by omega), e1, e2, ew,
      beq_self_eq_true, cond_true, f41_eq ha (show 2010 < k by omega), f41_eq hx (show 2010 < k by omega), f41_eq hwo (show 2010 < k by omega), hh, hwh, f40_refl (l := a) (show a.length + 1 < k by omega) (by omega)]
    have hd : decide (((whole n).length : Int) ≤ 1) = true := by simp only [decide_eq_true_eq]; omega
    rw [wi (n := n) (by omega) (by omega)]
    simp only [hd, beq_self_eq_true, cond_true, f24_eq (show 20 < k by omega)]
  · have h' : ((hlF a n).1 != 0) = true := by simp [h]
    simp only [h', cond_true, hlF_bad h, List.length_nil, f24_eq (show 20 < k by omega)]
    rfl
end Go.Proofs.Ytlcklflbhhnnhaa.PM

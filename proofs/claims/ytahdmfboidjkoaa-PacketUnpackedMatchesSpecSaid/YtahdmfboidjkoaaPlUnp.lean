/- The law of unpacking. -/
import Derived.Test.YtahdmfboidjkoaaPlFrames
import Derived.Test.YtahdmfboidjkoaaPlSplit
set_option linter.unusedSimpArgs false
set_option linter.unusedVariables false
namespace Go.Proofs.Ytahdmfboidjkoaa.PM
open Go Go.Proofs.Ytahdmfboidjkoaa.Bt Go.Proofs.Ytahdmfboidjkoaa.Crc
variable {R : Type}

abbrev Fm := Int × (Int × (Int × (Int × (List Int × Unit))))
structure Un where
  w : Bool
  bad : Int
  bg : List Int
  out : List Pkt
def pkOf (r : Rd) : Pkt := (r.s, (r.c, (r.p, (r.n, (r.b, ())))))
def drain : Nat → Int → List Int → List Pkt → Un
  | 0, bad, bg, out => ⟨false, bad, bg, out⟩
  | f + 1, bad, bg, out => if (readR bg).e = 0 then drain f bad (bg.drop (readR bg).m.toNat) (if (readR bg).s ≠ 2047 then out ++ [pkOf (readR bg)] else out) else if (readR bg).e = 9 then ⟨false, bad, bg, out⟩ else ⟨true, bad + 1, [], out⟩
theorem readR_ok {l : List Int} (h : (readR l).e = 0) : 9 ≤ (readR l).m ∧ (readR l).m ≤ l.length := by
  unfold readR at h ⊢
  split
  · rename_i q; simp [q, Rd.bad] at h
  · rename_i q0
    split
    · rename_i q; simp [q0, q, Rd.bad] at h
    · rename_i q1
      split
      · rename_i q; simp [q0, q1, q, Rd.bad] at h
      · rename_i q2
        split
        · rename_i q; simp only [if_neg q0, if_neg q1, if_neg q2, if_pos q, Rd.bad] at h; cases h
        · rename_i q3
          split
          · rename_i q; simp only [if_neg q0, if_neg q1, if_neg q2, if_neg q3, if_pos q, Rd.bad] at h; cases h
          · show 9 ≤ w16 (l.drop 4) + 7 ∧ w16 (l.drop 4) + 7 ≤ l.length
            rw [Decidable.not_not] at q2
            omega
theorem readR_nil : readR [] = Rd.bad 9 := rfl
theorem drain_fuel : ∀ (f g : Nat) (bad : Int) (bg : List Int) (out : List Pkt), bg.length < f → bg.length < g → drain f bad bg out = drain g bad bg out
  | 0, g, bad, bg, out, h, _ => absurd h (Nat.not_lt_zero _)
  | f + 1, 0, bad, bg, out, _, h => absurd h (Nat.not_lt_zero _)
  | f + 1, g + 1, bad, bg, out, h, h' => by
    simp only [drain]
    by_cases e : (readR bg).e = 0
    · obtain ⟨m1, m2⟩ := readR_ok e
      have : (bg.drop (readR bg).m.toNat).length < bg.length := by rw [List.length_drop]; omega
      simp only [e, if_true]
      exact drain_fuel f g _ _ _ (by omega) (by omega)
    · simp only [e, if_false]
def drn (bad : Int) (bg : List Int) (out : List Pkt) : Un := drain (bg.length + 1) bad bg out
theorem drain_ok : ∀ (f : Nat) (bad : Int) (bg : List Int) (out : List Pkt) (M : Nat), bg.length < f → B bg → out.length + bg.length ≤ M → bg.length ≤ 1000000 → (∀ y ∈ out, y.2.2.2.2.1.length ≤ 1000000) →
    B (drain f bad bg out).bg ∧ (drain f bad bg out).out.length + (drain f bad bg out).bg.length ≤ M ∧ (∀ y ∈ (drain f bad bg out).out, y.2.2.2.2.1.length ≤ 1000000) ∧ bad ≤ (drain f bad bg out).bad ∧ (drain f bad bg out).bad ≤ bad + 1
  | 0, bad, bg, out, M, h, _, _, _, _ => absurd h (Nat.not_lt_zero _)
  | f + 1, bad, bg, out, M, h, hB, hM, hl, ho => by
    simp only [drain]
    by_cases e : (readR bg).e = 0
    · obtain ⟨m1, m2⟩ := readR_ok e
      have hd : (bg.drop (readR bg).m.toNat).length = bg.length - (readR bg).m.toNat := List.length_drop
      have hb := readR_len bg
      simp only [e, if_true]
      refine drain_ok f bad _ _ M (by omega) (hB.drop _) ?_ (by omega) ?_
      · split
        · rw [List.length_append, List.length_singleton]; omega
        · omega
      · intro y hy
        split at hy
        · rcases List.mem_append.1 hy with hy | hy
          · exact ho y hy
          · rw [List.mem_singleton] at hy; subst hy; show (readR bg).b.length ≤ _; omega
        · exact ho y hy
    · simp only [e, if_false]
      split
      · exact ⟨hB, hM, ho, by show bad ≤ bad; omega, by show bad ≤ bad + 1; omega⟩
      · exact ⟨B.nil, by show out.length + 0 ≤ M; omega, ho, by show bad ≤ bad + 1; omega, by show bad + 1 ≤ bad + 1; omega⟩
def apU (K : Bool → Int → List Int → List Pkt → Option R) (u : Un) : Option R := K u.w u.bad u.bg u.out
def apN (K : Bool → Int → List Int → List Pkt → Option R) (u : Un) : Option R := K (!u.w) u.bad u.bg u.out
theorem tk_drop {l : List Int} (n : Nat) : (l.drop n).take (l.length - n) = l.drop n := by rw [List.take_of_length_le]; rw [List.length_drop]; omega
theorem f85_loop (k : Nat) (K : Bool → Int → List Int → List Pkt → Option R) (bad : Int) (hb : 0 ≤ bad ∧ bad ≤ 1000000) : ∀ (f : Nat) (bg : List Int) (out : List Pkt), bg.length < f → B bg → out.length + bg.length ≤ 1000000 → bg.length + 20 < k →
    f85_0d k K false bad f bg out = apU K (drain f bad bg out)
  | 0, bg, out, h, _, _, _ => absurd h (Nat.not_lt_zero _)
  | f + 1, bg, out, h, hB, hM, hk => by
    simp only [f85_0d, f85_0b, drain]
    rw [f22_eq hB (by omega) k hk]
    simp only [Rd.app]
    have L : 1000000 ≤ LIM 56 := LIM56
    by_cases e : (readR bg).e = 0
    · obtain ⟨m1, m2⟩ := readR_ok e
      have hd : (bg.drop (readR bg).m.toNat).length = bg.length - (readR bg).m.toNat := List.length_drop
      have q1 : decide (0 ≤ (readR bg).m) = true := by simp only [decide_eq_true_eq]; omega
      have q2 : decide ((readR bg).m ≤ (bg.length : Int)) = true := by simp only [decide_eq_true_eq]; omega
      have q3 : decide (out.length + ([((readR bg).s, ((readR bg).c, ((readR bg).p, ((readR bg).n, ((readR bg).b, ())))))] : List Pkt).length ≤ LIM 56) = true := by
        simp only [decide_eq_true_eq, List.length_singleton]; omega
      simp only [e, beq_self_eq_true, cond_true, if_true, f85_1000012_def, f85_1000012d, q1, q2, q3, Bool.and_self, tk_drop]
      by_cases e2 : (readR bg).s = 2047
      · have e2' : ((readR bg).s != 2047) = false := by simp [e2]
        simp only [e2', cond_false, e2, ne_eq, not_true_eq_false, if_false]
        exact f85_loop k K bad hb f _ _ (by omega) (hB.drop _) (by omega) (by omega)
      · have e2' : ((readR bg).s != 2047) = true := by simp [e2]
        simp only [e2', cond_true, e2, ne_eq, not_false_eq_true, if_true]
        exact f85_loop k K bad hb f _ _ (by omega) (hB.drop _) (by rw [List.length_append, List.length_singleton]; omega) (by omega)
    · have e' : ((readR bg).e == 0) = false := by simp [e]
      simp only [e', e, cond_false, if_false]
      by_cases e9 : (readR bg).e = 9
      · simp only [e9, beq_self_eq_true, cond_true, if_true, apU]
      · have e9' : ((readR bg).e == 9) = false := by simp [e9]
        simp only [e9', e9, cond_false, if_false, apU]
        rw [wraps_i64 _ (by omega) (by omega)]
theorem f86_loop (k : Nat) (K : Bool → Int → List Int → List Pkt → Option R) (bad : Int) (hb : 0 ≤ bad ∧ bad ≤ 1000000) : ∀ (f : Nat) (bg : List Int) (out : List Pkt), bg.length < f → B bg → out.length + bg.length ≤ 1000000 → bg.length + 20 < k →
    f86_0d k K (fun g o => K true bad g o) true bad f bg out = apN K (drain f bad bg out)
  | 0, bg, out, h, _, _, _ => absurd h (Nat.not_lt_zero _)
  | f + 1, bg, out, h, hB, hM, hk => by
    simp only [f86_0d, f86_0b, drain]
    have L : 1000000 ≤ LIM 56 := LIM56
    by_cases e0 : bg.length = 0
    · have hn : bg = [] := List.length_eq_zero_iff.1 e0
      subst hn
      rw [readR_nil]
      simp [Rd.bad, apN]
    · have q0 : decide ((bg.length : Int) > 0) = true := by simp only [decide_eq_true_eq]; omega
      simp only [q0, cond_true]
      rw [f23_eq hB (by omega) k hk]
      simp only [Rd.app]
      by_cases e : (readR bg).e = 0
      · obtain ⟨m1, m2⟩ := readR_ok e
        have hd : (bg.drop (readR bg).m.toNat).length = bg.length - (readR bg).m.toNat := List.length_drop
        have q1 : decide (0 ≤ (readR bg).m) = true := by simp only [decide_eq_true_eq]; omega
        have q2 : decide ((readR bg).m ≤ (bg.length : Int)) = true := by simp only [decide_eq_true_eq]; omega
        have q3 : decide (out.length + ([((readR bg).s, ((readR bg).c, ((readR bg).p, ((readR bg).n, ((readR bg).b, ())))))] : List Pkt).length ≤ LIM 56) = true := by
          simp only [decide_eq_true_eq, List.length_singleton]; omega
        have z1 : ((0 : Int) == 9) = false := rfl
        have z2 : ((0 : Int) != 0) = false := rfl
        simp only [e, z1, z2, cond_false, cond_true, if_true, f86_1000007_def, f86_1000007d, q1, q2, q3, Bool.and_self, tk_drop]
        by_cases e2 : (readR bg).s = 2047
        · have e2' : ((readR bg).s != 2047) = false := by simp [e2]
          simp only [e2', cond_false, e2, ne_eq, not_true_eq_false, if_false]
          exact f86_loop k K bad hb f _ _ (by omega) (hB.drop _) (by omega) (by omega)
        · have e2' : ((readR bg).s != 2047) = true := by simp [e2]
          simp only [e2', cond_true, e2, ne_eq, not_false_eq_true, if_true]
          exact f86_loop k K bad hb f _ _ (by omega) (hB.drop _) (by rw [List.length_append, List.length_singleton]; omega) (by omega)
      · have e' : ((readR bg).e != 0) = true := by simp [e]
        simp only [e', e, cond_true, if_false]
        by_cases e9 : (readR bg).e = 9
        · simp only [e9, beq_self_eq_true, cond_true, if_true, apN, Bool.not_false]
        · have e9' : ((readR bg).e == 9) = false := by simp [e9]
          simp only [e9', e9, cond_false, if_false, apN, Bool.not_true]
          rw [wraps_i64 _ (by omega) (by omega)]

/-! one frame -/
def unS (u : Un) (d : Int) (l : List Int) : Un := if u.w then (if d = 2047 then u else drn u.bad (l.drop d.toNat) u.out) else drn u.bad (u.bg ++ l) u.out
theorem f85_eq {k : Nat} (a b c d : Int) (l : List Int) (u : Un) (bg' : List Int) (hbg : u.w = false → bg' = u.bg) (hd : d = 2047 ∨ (0 ≤ d ∧ d ≤ l.length)) (hl : B l) (hB : B u.bg) (hb : 0 ≤ u.bad ∧ u.bad ≤ 1000000)
    (hM : u.out.length + u.bg.length + l.length ≤ 1000000) (hk : u.bg.length + l.length + 30 < k) (C : Bool → Int → List Pkt → Option R) (x4 : Bool → Int → List Int → List Pkt → Option R)
    (hx : ∀ w b g g' o, (w = false → g = g') → x4 w b g o = x4 w b g' o) :
    f85 k a b c d l u.w u.bad bg' u.out x4 = apU x4 (unS u d l) := by
  rw [f85_def]
  obtain ⟨k, rfl⟩ : ∃ j, k = j + 1 := ⟨k - 1, by omega⟩
  have L1 : LIM 1 = 140737488355328 := by simp [LIM]
  simp only [f85d, f85_1000003_def, f85_1000003d, unS, f85_0_def]
  cases hw : u.w
  · have := hbg hw
    subst this
    have q : decide (u.bg.length + l.length ≤ LIM 1) = true := by rw [L1]; simp only [decide_eq_true_eq]; omega
    simp only [cond_false, q, cond_true, Bool.false_eq_true, if_false]
    rw [f85_loop k x4 u.bad hb k (u.bg ++ l) u.out (by rw [List.length_append]; omega) (hB.app hl) (by rw [List.length_append]; omega) (by rw [List.length_append]; omega),
      drain_fuel k ((u.bg ++ l).length + 1) _ _ _ (by rw [List.length_append]; omega) (by omega)]
    rfl
  · simp only [cond_true, if_true]
    by_cases e : d = 2047
    · have e' : (d == 2047) = true := by simp [e]
      simp only [e', cond_true, e, if_true, apU, hw]
      exact hx _ _ _ _ _ (fun h => by cases h)
    · have e' : (d == 2047) = false := by simp [e]
      have hd' : 0 ≤ d ∧ d ≤ l.length := by omega
      have q1 : decide (0 ≤ d) = true := by simp only [decide_eq_true_eq]; omega
      have q2 : decide (d ≤ (l.length : Int)) = true := by simp only [decide_eq_true_eq]; omega
      have hl2 : (l.drop d.toNat).length ≤ l.length := by rw [List.length_drop]; omega
      have q : decide (([] : List Int).length + (l.drop d.toNat).length ≤ LIM 1) = true := by rw [L1]; simp only [decide_eq_true_eq, List.length_nil]; omega
      simp only [e', e, cond_false, if_false, q1, q2, Bool.and_self, cond_true, q, List.nil_append]
      rw [f85_loop k x4 u.bad hb k (l.drop d.toNat) u.out (by omega) (hl.drop _) (by omega) (by omega), drain_fuel k ((l.drop d.toNat).length + 1) _ _ _ (by omega) (by omega)]
      rfl
end Go.Proofs.Ytahdmfboidjkoaa.PM

/- Merged plain texts: PlUnp, PlUnp2, PlUnp3. -/
import Derived.Test.YtahdmfboidjkoaaPlFrames
import Derived.Test.YtahdmfboidjkoaaPlSplit
/- The law of unpacking. -/
set_option linter.unusedSimpArgs false
set_option linter.unusedVariables false
namespace Go.Proofs.Ytahdmfboidjkoaa.PM
open Go Go.Proofs.Ytahdmfboidjkoaa.Bt Go.Proofs.Ytahdmfboidjkoaa.Crc
variable {R : Type}

abbrev Fm := Int × (Int × (Int × (Int × (List Int × Unit))))
structure Un where
  w : Bool
  bad : Int
  bg : List Int
  out : List Pkt
def pkOf (r : Rd) : Pkt := (r.s, (r.c, (r.p, (r.n, (r.b, ())))))
def drain : Nat → Int → List Int → List Pkt → Un
  | 0, bad, bg, out => ⟨false, bad, bg, out⟩
  | f + 1, bad, bg, out => if (readR bg).e = 0 then drain f bad (bg.drop (readR bg).m.toNat) (if (readR bg).s ≠ 2047 then out ++ [pkOf (readR bg)] else out) else if (readR bg).e = 9 then ⟨false, bad, bg, out⟩ else ⟨true, bad + 1, [], out⟩
theorem readR_ok {l : List Int} (h : (readR l).e = 0) : 9 ≤ (readR l).m ∧ (readR l).m ≤ l.length := by
  unfold readR at h ⊢
  split
  · rename_i q; simp [q, Rd.bad] at h
  · rename_i q0
    split
    · rename_i q; simp [q0, q, Rd.bad] at h
    · rename_i q1
      split
      · rename_i q; simp [q0, q1, q, Rd.bad] at h
      · rename_i q2
        split
        · rename_i q; simp only [if_neg q0, if_neg q1, if_neg q2, if_pos q, Rd.bad] at h; cases h
        · rename_i q3
          split
          · rename_i q; simp only [if_neg q0, if_neg q1, if_neg q2, if_neg q3, if_pos q, Rd.bad] at h; cases h
          · show 9 ≤ w16 (l.drop 4) + 7 ∧ w16 (l.drop 4) + 7 ≤ l.length
            rw [Decidable.not_not] at q2
            omega
theorem readR_nil : readR [] = Rd.bad 9 := rfl
theorem drain_fuel : ∀ (f g : Nat) (bad : Int) (bg : List Int) (out : List Pkt), bg.length < f → bg.length < g → drain f bad bg out = drain g bad bg out
  | 0, g, bad, bg, out, h, _ => absurd h (Nat.not_lt_zero _)
  | f + 1, 0, bad, bg, out, _, h => absurd h (Nat.not_lt_zero _)
  | f + 1, g + 1, bad, bg, out, h, h' => by
    simp only [drain]
    by_cases e : (readR bg).e = 0
    · obtain ⟨m1, m2⟩ := readR_ok e
      have : (bg.drop (readR bg).m.toNat).length < bg.length := by rw [List.length_drop]; omega
      simp only [e, if_true]
      exact drain_fuel f g _ _ _ (by omega) (by omega)
    · simp only [e, if_false]
def drn (bad : Int) (bg : List Int) (out : List Pkt) : Un := drain (bg.length + 1) bad bg out
theorem drain_ok : ∀ (f : Nat) (bad : Int) (bg : List Int) (out : List Pkt) (M : Nat), bg.length < f → B bg → out.length + bg.length ≤ M → bg.length ≤ 1000000 → (∀ y ∈ out, y.2.2.2.2.1.length ≤ 1000000) →
    B (drain f bad bg out).bg ∧ (drain f bad bg out).out.length + (drain f bad bg out).bg.length ≤ M ∧ (∀ y ∈ (drain f bad bg out).out, y.2.2.2.2.1.length ≤ 1000000) ∧ bad ≤ (drain f bad bg out).bad ∧ (drain f bad bg out).bad ≤ bad + 1
  | 0, bad, bg, out, M, h, _, _, _, _ => absurd h (Nat.not_lt_zero _)
  | f + 1, bad, bg, out, M, h, hB, hM, hl, ho => by
    simp only [drain]
    by_cases e : (readR bg).e = 0
    · obtain ⟨m1, m2⟩ := readR_ok e
      have hd : (bg.drop (readR bg).m.toNat).length = bg.length - (readR bg).m.toNat := List.length_drop
      have hb := readR_len bg
      simp only [e, if_true]
      refine drain_ok f bad _ _ M (by omega) (hB.drop _) ?_ (by omega) ?_
      · split
        · rw [List.length_append, List.length_singleton]; omega
        · omega
      · intro y hy
        split at hy
        · rcases List.mem_append.1 hy with hy | hy
          · exact ho y hy
          · rw [List.mem_singleton] at hy; subst hy; show (readR bg).b.length ≤ _; omega
        · exact ho y hy
    · simp only [e, if_false]
      split
      · exact ⟨hB, hM, ho, by show bad ≤ bad; omega, by show bad ≤ bad + 1; omega⟩
      · exact ⟨B.nil, by show out.length + 0 ≤ M; omega, ho, by show bad ≤ bad + 1; omega, by show bad + 1 ≤ bad + 1; omega⟩
def apU (K : Bool → Int → List Int → List Pkt → Option R) (u : Un) : Option R := K u.w u.bad u.bg u.out
def apN (K : Bool → Int → List Int → List Pkt → Option R) (u : Un) : Option R := K (!u.w) u.bad u.bg u.out
theorem tk_drop {l : List Int} (n : Nat) : (l.drop n).take (l.length - n) = l.drop n := by rw [List.take_of_length_le]; rw [List.length_drop]; omega
theorem f85_loop (k : Nat) (K : Bool → Int → List Int → List Pkt → Option R) (bad : Int) (hb : 0 ≤ bad ∧ bad ≤ 1000000) : ∀ (f : Nat) (bg : List Int) (out : List Pkt), bg.length < f → B bg → out.length + bg.length ≤ 1000000 → bg.length + 20 < k →
    f85_0d k K false bad f bg out = apU K (drain f bad bg out)
  | 0, bg, out, h, _, _, _ => absurd h (Nat.not_lt_zero _)
  | f + 1, bg, out, h, hB, hM, hk => by
    simp only [f85_0d, f85_0b, drain]
    rw [f22_eq hB (by omega) k hk]
    simp only [Rd.app]
    have L : 1000000 ≤ LIM 56 := LIM56
    by_cases e : (readR bg).e = 0
    · obtain ⟨m1, m2⟩ := readR_ok e
      have hd : (bg.drop (readR bg).m.toNat).length = bg.length - (readR bg).m.toNat := List.length_drop
      have q1 : decide (0 ≤ (readR bg).m) = true := by simp only [decide_eq_true_eq]; omega
      have q2 : decide ((readR bg).m ≤ (bg.length : Int)) = true := by simp only [decide_eq_true_eq]; omega
      have q3 : decide (out.length + ([((readR bg).s, ((readR bg).c, ((readR bg).p, ((readR bg).n, ((readR bg).b, ())))))] : List Pkt).length ≤ LIM 56) = true := by
        simp only [decide_eq_true_eq, List.length_singleton]; omega
      simp only [e, beq_self_eq_true, cond_true, if_true, f85_1000012_def, f85_1000012d, q1, q2, q3, Bool.and_self, tk_drop]
      by_cases e2 : (readR bg).s = 2047
      · have e2' : ((readR bg).s != 2047) = false := by simp [e2]
        simp only [e2', cond_false, e2, ne_eq, not_true_eq_false, if_false]
        exact f85_loop k K bad hb f _ _ (by omega) (hB.drop _) (by omega) (by omega)
      · have e2' : ((readR bg).s != 2047) = true := by simp [e2]
        simp only [e2', cond_true, e2, ne_eq, not_false_eq_true, if_true]
        exact f85_loop k K bad hb f _ _ (by omega) (hB.drop _) (by rw [List.length_append, List.length_singleton]; omega) (by omega)
    · have e' : ((readR bg).e == 0) = false := by simp [e]
      simp only [e', e, cond_false, if_false]
      by_cases e9 : (readR bg).e = 9
      · simp only [e9, beq_self_eq_true, cond_true, if_true, apU]
      · have e9' : ((readR bg).e == 9) = false := by simp [e9]
        simp only [e9', e9, cond_false, if_false, apU]
        rw [wraps_i64 _ (by omega) (by omega)]
theorem f86_loop (k : Nat) (K : Bool → Int → List Int → List Pkt → Option R) (bad : Int) (hb : 0 ≤ bad ∧ bad ≤ 1000000) : ∀ (f : Nat) (bg : List Int) (out : List Pkt), bg.length < f → B bg → out.length + bg.length ≤ 1000000 → bg.length + 20 < k →
    f86_0d k K (fun g o => K true bad g o) true bad f bg out = apN K (drain f bad bg out)
  | 0, bg, out, h, _, _, _ => absurd h (Nat.not_lt_zero _)
  | f + 1, bg, out, h, hB, hM, hk => by
    simp only [f86_0d, f86_0b, drain]
    have L : 1000000 ≤ LIM 56 := LIM56
    by_cases e0 : bg.length = 0
    · have hn : bg = [] := List.length_eq_zero_iff.1 e0
      subst hn
      rw [readR_nil]
      simp [Rd.bad, apN]
    · have q0 : decide ((bg.length : Int) > 0) = true := by simp only [decide_eq_true_eq]; omega
      simp only [q0, cond_true]
      rw [f23_eq hB (by omega) k hk]
      simp only [Rd.app]
      by_cases e : (readR bg).e = 0
      · obtain ⟨m1, m2⟩ := readR_ok e
        have hd : (bg.drop (readR bg).m.toNat).length = bg.length - (readR bg).m.toNat := List.length_drop
        have q1 : decide (0 ≤ (readR bg).m) = true := by simp only [decide_eq_true_eq]; omega
        have q2 : decide ((readR bg).m ≤ (bg.length : Int)) = true := by simp only [decide_eq_true_eq]; omega
        have q3 : decide (out.length + ([((readR bg).s, ((readR bg).c, ((readR bg).p, ((readR bg).n, ((readR bg).b, ())))))] : List Pkt).length ≤ LIM 56) = true := by
          simp only [decide_eq_true_eq, List.length_singleton]; omega
        have z1 : ((0 : Int) == 9) = false := rfl
        have z2 : ((0 : Int) != 0) = false := rfl
        simp only [e, z1, z2, cond_false, cond_true, if_true, f86_1000007_def, f86_1000007d, q1, q2, q3, Bool.and_self, tk_drop]
        by_cases e2 : (readR bg).s = 2047
        · have e2' : ((readR bg).s != 2047) = false := by simp [e2]
          simp only [e2', cond_false, e2, ne_eq, not_true_eq_false, if_false]
          exact f86_loop k K bad hb f _ _ (by omega) (hB.drop _) (by omega) (by omega)
        · have e2' : ((readR bg).s != 2047) = true := by simp [e2]
          simp only [e2', cond_true, e2, ne_eq, not_false_eq_true, if_true]
          exact f86_loop k K bad hb f _ _ (by omega) (hB.drop _) (by rw [List.length_append, List.length_singleton]; omega) (by omega)
      · have e' : ((readR bg).e != 0) = true := by simp [e]
        simp only [e', e, cond_true, if_false]
        by_cases e9 : (readR bg).e = 9
        · simp only [e9, beq_self_eq_true, cond_true, if_true, apN, Bool.not_false]
        · have e9' : ((readR bg).e == 9) = false := by simp [e9]
          simp only [e9', e9, cond_false, if_false, apN, Bool.not_true]
          rw [wraps_i64 _ (by omega) (by omega)]

/-! one frame -/
def unS (u : Un) (d : Int) (l : List Int) : Un := if u.w then (if d = 2047 then u else drn u.bad (l.drop d.toNat) u.out) else drn u.bad (u.bg ++ l) u.out
theorem f85_eq {k : Nat} (a b c d : Int) (l : List Int) (u : Un) (bg' : List Int) (hbg : u.w = false → bg' = u.bg) (hd : d = 2047 ∨ (0 ≤ d ∧ d ≤ l.length)) (hl : B l) (hB : B u.bg) (hb : 0 ≤ u.bad ∧ u.bad ≤ 1000000)
    (hM : u.out.length + u.bg.length + l.length ≤ 1000000) (hk : u.bg.length + l.length + 30 < k) (C : Bool → Int → List Pkt → Option R) (x4 : Bool → Int → List Int → List Pkt → Option R)
    (hx : ∀ w b g g' o, (w = false → g = g') → x4 w b g o = x4 w b g' o) :
    f85 k a b c d l u.w u.bad bg' u.out x4 = apU x4 (unS u d l) := by
  rw [f85_def]
  obtain ⟨k, rfl⟩ : ∃ j, k = j + 1 := ⟨k - 1, by omega⟩
  have L1 : LIM 1 = 140737488355328 := by simp [LIM]
  simp only [f85d, f85_1000003_def, f85_1000003d, unS, f85_0_def]
  cases hw : u.w
  · have := hbg hw
    subst this
    have q : decide (u.bg.length + l.length ≤ LIM 1) = true := by rw [L1]; simp only [decide_eq_true_eq]; omega
    simp only [cond_false, q, cond_true, Bool.false_eq_true, if_false]
    rw [f85_loop k x4 u.bad hb k (u.bg ++ l) u.out (by rw [List.length_append]; omega) (hB.app hl) (by rw [List.length_append]; omega) (by rw [List.length_append]; omega),
      drain_fuel k ((u.bg ++ l).length + 1) _ _ _ (by rw [List.length_append]; omega) (by omega)]
    rfl
  · simp only [cond_true, if_true]
    by_cases e : d = 2047
    · have e' : (d == 2047) = true := by simp [e]
      simp only [e', cond_true, e, if_true, apU, hw]
      exact hx _ _ _ _ _ (fun h => by cases h)
    · have e' : (d == 2047) = false := by simp [e]
      have hd' : 0 ≤ d ∧ d ≤ l.length := by omega
      have q1 : decide (0 ≤ d) = true := by simp only [decide_eq_true_eq]; omega
      have q2 : decide (d ≤ (l.length : Int)) = true := by simp only [decide_eq_true_eq]; omega
      have hl2 : (l.drop d.toNat).length ≤ l.length := by rw [List.length_drop]; omega
      have q : decide (([] : List Int).length + (l.drop d.toNat).length ≤ LIM 1) = true := by rw [L1]; simp only [decide_eq_true_eq, List.length_nil]; omega
      simp only [e', e, cond_false, if_false, q1, q2, Bool.and_self, cond_true, q, List.nil_append]
      rw [f85_loop k x4 u.bad hb k (l.drop d.toNat) u.out (by omega) (hl.drop _) (by omega) (by omega), drain_fuel k ((l.drop d.toNat).length + 1) _ _ _ (by omega) (by omega)]
      rfl
end Go.Proofs.Ytahdmfboidjkoaa.PM
/- The law of unpacking: the frames. -/
set_option linter.unusedSimpArgs false
set_option linter.unusedVariables false
namespace Go.Proofs.Ytahdmfboidjkoaa.PM
open Go Go.Proofs.Ytahdmfboidjkoaa.Bt Go.Proofs.Ytahdmfboidjkoaa.Crc
variable {R : Type}

def unL : Option Int → List Fm → Un → Un
  | _, [], u => u
  | p, y :: l, u => unL (some y.2.2.1) l (match p with
    | none => unS u y.2.2.2.1 y.2.2.2.2.1
    | some q => if y.2.2.1 = q then u else unS (if y.2.2.1 = (q + 1) % 256 then u else ⟨true, u.bad + 1, [], u.out⟩) y.2.2.2.1 y.2.2.2.2.1)
structure FmOk (y : Fm) : Prop where
  num : 0 ≤ y.2.2.1 ∧ y.2.2.1 ≤ 255
  fst : y.2.2.2.1 = 2047 ∨ (0 ≤ y.2.2.2.1 ∧ y.2.2.2.1 ≤ y.2.2.2.2.1.length)
  len : y.2.2.2.2.1.length ≤ 992
  byt : B y.2.2.2.2.1
theorem chkF_ok {y : Fm} {n : Int} (h : chkF y.1 y.2.1 y.2.2.1 y.2.2.2.1 y.2.2.2.2.1 n = 0) (hB : B y.2.2.2.2.1) : FmOk y := by
  obtain ⟨r1, r2, r3, r4, r5, r6⟩ := chkF_right h
  refine ⟨r4, ?_, by omega, hB⟩
  by_cases e : y.2.2.2.1 = 2047
  · exact Or.inl e
  · right
    unfold chkF at h
    rw [if_neg (by omega), if_neg (by omega), if_neg (by omega), if_neg (by omega), if_neg (by omega), if_neg e] at h
    split at h
    · cases h
    · omega
structure UI (i : Nat) (u : Un) : Prop where
  tot : u.out.length + u.bg.length ≤ 992 * i
  byt : B u.bg
  body : ∀ y ∈ u.out, y.2.2.2.2.1.length ≤ 1000000
  bad : 0 ≤ u.bad ∧ u.bad ≤ 2 * i
theorem unS_ok {i : Nat} (hi : i ≤ 1000) {u : Un} {d : Int} {l : List Int} (ht : u.out.length + u.bg.length ≤ 992 * i) (hb : B u.bg) (ho : ∀ y ∈ u.out, y.2.2.2.2.1.length ≤ 1000000) (hbad : 0 ≤ u.bad ∧ u.bad ≤ 2 * i + 1) (hl : B l) (hn : l.length ≤ 992) : UI (i + 1) (unS u d l) := by
  unfold unS
  split
  · split
    · exact ⟨by omega, hb, ho, by omega⟩
    · have hd : (l.drop d.toNat).length ≤ l.length := by rw [List.length_drop]; omega
      obtain ⟨a1, a2, a3, a4, a5⟩ := drain_ok ((l.drop d.toNat).length + 1) u.bad (l.drop d.toNat) u.out (992 * (i + 1)) (by omega) (hl.drop _) (by omega) (by omega) ho
      exact ⟨a2, a1, a3, by show 0 ≤ (drain ((l.drop d.toNat).length + 1) u.bad (l.drop d.toNat) u.out).bad; omega, by show (drain ((l.drop d.toNat).length + 1) u.bad (l.drop d.toNat) u.out).bad ≤ _; omega⟩
  · have hap : (u.bg ++ l).length = u.bg.length + l.length := List.length_append
    obtain ⟨a1, a2, a3, a4, a5⟩ := drain_ok ((u.bg ++ l).length + 1) u.bad (u.bg ++ l) u.out (992 * (i + 1)) (by omega) (hb.app hl) (by omega) (by omega) ho
    exact ⟨a2, a1, a3, by show 0 ≤ (drain ((u.bg ++ l).length + 1) u.bad (u.bg ++ l) u.out).bad; omega, by show (drain ((u.bg ++ l).length + 1) u.bad (u.bg ++ l) u.out).bad ≤ _; omega⟩
def prevN (l : List Fm) (i : Nat) : Option Int := if i = 0 then none else some (l.getD (i - 1) (0, (0, (0, (0, ([], ())))))).2.2.1
theorem prevN_succ {l : List Fm} {i : Nat} (h : i < l.length) : prevN l (i + 1) = some (l[i]).2.2.1 := by
  simp only [prevN, Nat.add_one_ne_zero, if_false, Nat.add_sub_cancel]
  rw [List.getD_eq_getElem?_getD, List.getElem?_eq_getElem h]; rfl
theorem f50_loop (k : Nat) (C : Int → List Pkt → Option R) (l : List Fm) (hl : l.length ≤ 1000) (ho : ∀ y ∈ l, FmOk y) (hk : 1000100 < k) : ∀ (d f i : Nat) (u : Un) (bg' : List Int), i + d = l.length → d < f → UI i u → (u.w = false → bg' = u.bg) →
    f50_3d k (fun w b g o => C b o) l l (l.length : Int) f (i : Int) u.w u.bad bg' u.out = C (unL (prevN l i) (l.drop i) u).bad (unL (prevN l i) (l.drop i) u).out := by
  intro d
  induction d with
  | zero =>
    intro f i u bg' hi hf hu hb
    obtain ⟨f, rfl⟩ : ∃ j, f = j + 1 := ⟨f - 1, by omega⟩
    have h1 : decide ((i : Int) < (l.length : Int)) = false := by simp only [decide_eq_false_iff_not]; omega
    simp only [f50_3d, f50_3b, h1, cond_false]
    rw [List.drop_of_length_le (by omega)]
    rfl
  | succ d ih =>
    intro f i u bg' hi hf hu hb
    obtain ⟨f, rfl⟩ : ∃ j, f = j + 1 := ⟨f - 1, by omega⟩
    have h1 : decide ((i : Int) < (l.length : Int)) = true := by simp only [decide_eq_true_eq]; omega
    have h0 : decide ((0 : Int) ≤ (i : Int)) = true := by simp
    have hli : i < l.length := by omega
    have w2 : IntKind.i64.wrap ((i : Int) + 1) = ((i + 1 : Nat) : Int) := by rw [wraps_i64 _ (by omega) (by omega)]; omega
    have hg : l.getD i (0, (0, (0, (0, (([] : List Int), ()))))) = l[i] := by rw [List.getD_eq_getElem?_getD, List.getElem?_eq_getElem hli]; rfl
    obtain ⟨y1, y2, y3, y4⟩ := ho _ (List.getElem_mem hli)
    obtain ⟨u1, u2, u3, u4⟩ := hu
    have hps := prevN_succ hli
    have hx : ∀ (w : Bool) (b : Int) (g g' : List Int) (o : List Pkt), (w = false → g = g') → UI (i + 1) ⟨w, b, g', o⟩ →
        f50_3d k (fun w b g o => C b o) l l (l.length : Int) f ((i + 1 : Nat) : Int) w b g o = C (unL (prevN l (i + 1)) (l.drop (i + 1)) ⟨w, b, g', o⟩).bad (unL (prevN l (i + 1)) (l.drop (i + 1)) ⟨w, b, g', o⟩).out :=
      fun w b g g' o hw hU => ih f (i + 1) ⟨w, b, g', o⟩ g (by omega) (by omega) hU hw
    have hstep : ∀ (v : Un) (bg'' : List Int), v.out.length + v.bg.length ≤ 992 * i → B v.bg → (∀ y ∈ v.out, y.2.2.2.2.1.length ≤ 1000000) → (0 ≤ v.bad ∧ v.bad ≤ 2 * i + 1) → (v.w = false → bg'' = v.bg) →
        f85 k (l[i]).1 (l[i]).2.1 (l[i]).2.2.1 (l[i]).2.2.2.1 (l[i]).2.2.2.2.1 v.w v.bad bg'' v.out (fun w b g o => f50_3d k (fun w b g o => C b o) l l (l.length : Int) f ((i + 1 : Nat) : Int) w b g o)
          = C (unL (some (l[i]).2.2.1) (l.drop (i + 1)) (unS v (l[i]).2.2.2.1 (l[i]).2.2.2.2.1)).bad (unL (some (l[i]).2.2.1) (l.drop (i + 1)) (unS v (l[i]).2.2.2.1 (l[i]).2.2.2.2.1)).out := by
      intro v bg'' v1 v2 v3 v4 v5
      have hU := unS_ok (d := (l[i]).2.2.2.1) (show i ≤ 1000 by omega) v1 v2 v3 v4 y4 y3
      by_cases hcase : v.w = true ∧ (l[i]).2.2.2.1 = 2047
      · have hs : unS v (l[i]).2.2.2.1 (l[i]).2.2.2.2.1 = v := by unfold unS; rw [if_pos hcase.1, if_pos hcase.2]
        rw [hs] at hU ⊢
        rw [f85_def]
        obtain ⟨k', rfl⟩ : ∃ j, k = j + 1 := ⟨k - 1, by omega⟩
        simp only [f85d, f85_1000003_def, f85_1000003d, hcase.1, hcase.2, cond_true, beq_self_eq_true]
        have ev : v = ⟨true, v.bad, v.bg, v.out⟩ := by rw [← hcase.1]
        have := hx true v.bad bg'' v.bg v.out (fun h => by cases h) (ev ▸ hU)
        rw [this, hps]
        rw [← ev]
      · rw [f85_def]
        obtain ⟨k', rfl⟩ : ∃ j, k = j + 1 := ⟨k - 1, by omega⟩
        have L1 : LIM 1 = 140737488355328 := by simp [LIM]
        have fin : ∀ (bg : List Int), B bg → v.out.length + bg.length ≤ 1000000 → unS v (l[i]).2.2.2.1 (l[i]).2.2.2.2.1 = drn v.bad bg v.out →
            f85_0d k' (fun w b g o => f50_3d (k' + 1) (fun w b g o => C b o) l l (l.length : Int) f ((i + 1 : Nat) : Int) w b g o) false v.bad k' bg v.out = C (unL (some (l[i]).2.2.1) (l.drop (i + 1)) (unS v (l[i]).2.2.2.1 (l[i]).2.2.2.2.1)).bad (unL (some (l[i]).2.2.1) (l.drop (i + 1)) (unS v (l[i]).2.2.2.1 (l[i]).2.2.2.2.1)).out := by
          intro bg b1 b2 b3
          rw [f85_loop k' _ v.bad (by omega) k' bg v.out (by omega) b1 b2 (by omega), drain_fuel k' (bg.length + 1) _ _ _ (by omega) (by omega)]
          rw [b3] at hU ⊢
          have := hx (drn v.bad bg v.out).w (drn v.bad bg v.out).bad (drn v.bad bg v.out).bg (drn v.bad bg v.out).bg (drn v.bad bg v.out).out (fun _ => rfl) hU
          rw [hps] at this
          exact this
        simp only [f85d, f85_1000003_def, f85_1000003d, f85_0_def]
        cases hw : v.w
        · have hb5 := v5 hw
          subst hb5
          have hap : (v.bg ++ (l[i]).2.2.2.2.1).length = v.bg.length + (l[i]).2.2.2.2.1.length := List.length_append
          have q : decide (v.bg.length + (l[i]).2.2.2.2.1.length ≤ LIM 1) = true := by rw [L1]; simp only [decide_eq_true_eq]; omega
          simp only [cond_false, q, cond_true]
          exact fin _ (v2.app y4) (by omega) (by unfold unS; rw [hw]; rfl)
        · have e : ¬ (l[i]).2.2.2.1 = 2047 := fun e => hcase ⟨hw, e⟩
          have e' : ((l[i]).2.2.2.1 == 2047) = false := by simp [e]
          have hd' : 0 ≤ (l[i]).2.2.2.1 ∧ (l[i]).2.2.2.1 ≤ (l[i]).2.2.2.2.1.length := by omega
          have q1 : decide (0 ≤ (l[i]).2.2.2.1) = true := by simp only [decide_eq_true_eq]; omega
          have q2 : decide ((l[i]).2.2.2.1 ≤ ((l[i]).2.2.2.2.1.length : Int)) = true := by simp only [decide_eq_true_eq]; omega
          have hl2 : ((l[i]).2.2.2.2.1.drop (l[i]).2.2.2.1.toNat).length ≤ (l[i]).2.2.2.2.1.length := by rw [List.length_drop]; omega
          have q : decide (([] : List Int).length + ((l[i]).2.2.2.2.1.drop (l[i]).2.2.2.1.toNat).length ≤ LIM 1) = true := by rw [L1]; simp only [decide_eq_true_eq, List.length_nil]; omega
          simp only [cond_true, e', cond_false, q1, q2, Bool.and_self, q, List.nil_append]
          exact fin _ (y4.drop _) (by omega) (by unfold unS; rw [if_pos hw, if_neg e])
    simp only [f50_3d, f50_3b, f50_4_def, f50_4d, h1, h0, cond_true, Bool.and_self, Int.toNat_natCast, hg, w2, f50_1000019_def, f50_1000019d]
    rw [List.drop_eq_getElem_cons hli]
    by_cases hi0 : i = 0
    · have q : decide ((i : Int) > 0) = false := by simp only [decide_eq_false_iff_not]; omega
      simp only [q, cond_false]
      rw [hstep u bg' u1 u2 u3 ⟨u4.1, by omega⟩ hb]
      simp only [prevN, hi0, if_true, unL]
    · have q : decide ((i : Int) > 0) = true := by simp only [decide_eq_true_eq]; omega
      have wp : IntKind.i64.wrap ((i : Int) - 1) = ((i - 1 : Nat) : Int) := by rw [wraps_i64 _ (by omega) (by omega)]; omega
      have p0 : decide ((0 : Int) ≤ ((i - 1 : Nat) : Int)) = true := by simp
      have p1 : decide (((i - 1 : Nat) : Int) < (l.length : Int)) = true := by simp only [decide_eq_true_eq]; omega
      have hli1 : i - 1 < l.length := by omega
      have hg1 : l.getD (i - 1) (0, (0, (0, (0, (([] : List Int), ()))))) = l[i - 1] := by rw [List.getD_eq_getElem?_getD, List.getElem?_eq_getElem hli1]; rfl
      have hy1 := (ho _ (List.getElem_mem hli1)).num
      have hprev : prevN l i = some (l[i - 1]).2.2.1 := by simp only [prevN, hi0, if_false, hg1]
      simp only [q, cond_true, wp, p0, p1, Bool.and_self, Int.toNat_natCast, hg1, hprev, unL]
      rw [wraps_i64 ((l[i - 1]).2.2.1 + 1) (by omega) (by omega), Int.tmod_eq_emod_of_nonneg (show 0 ≤ (l[i - 1]).2.2.1 + 1 by omega)]
      by_cases e1 : (l[i]).2.2.1 = (l[i - 1]).2.2.1
      · have e1' : ((l[i]).2.2.1 == (l[i - 1]).2.2.1) = true := by simp [e1]
        simp only [e1', cond_true, e1, if_true, beq_self_eq_true]
        have := hx u.w u.bad bg' u.bg u.out hb ⟨by show u.out.length + u.bg.length ≤ _; omega, u2, u3, by show 0 ≤ u.bad ∧ u.bad ≤ _; omega⟩
        rw [hps, e1] at this
        exact this
      · have e1' : ((l[i]).2.2.1 == (l[i - 1]).2.2.1) = false := by simp [e1]
        simp only [e1', cond_false, e1, if_false, f50_1000022_def, f50_1000022d]
        by_cases e2 : (l[i]).2.2.1 = ((l[i - 1]).2.2.1 + 1) % 256
        · have e2' : ((l[i]).2.2.1 != ((l[i - 1]).2.2.1 + 1) % 256) = false := by simp [e2]
          simp only [e2', cond_false]
          rw [if_pos e2]
          exact hstep u bg' u1 u2 u3 ⟨u4.1, by omega⟩ hb
        · have e2' : ((l[i]).2.2.1 != ((l[i - 1]).2.2.1 + 1) % 256) = true := by simp [e2]
          simp only [e2', cond_true]
          rw [if_neg e2, wraps_i64 (u.bad + 1) (by omega) (by omega)]
          exact hstep ⟨true, u.bad + 1, [], u.out⟩ bg' (by show u.out.length + 0 ≤ _; omega) B.nil u3 ⟨by show 0 ≤ u.bad + 1; omega, by show u.bad + 1 ≤ _; omega⟩ (fun h => by cases h)
end Go.Proofs.Ytahdmfboidjkoaa.PM
/- The law of unpacking: the reference. -/
set_option linter.unusedSimpArgs false
set_option linter.unusedVariables false
namespace Go.Proofs.Ytahdmfboidjkoaa.PM
open Go Go.Proofs.Ytahdmfboidjkoaa.Bt Go.Proofs.Ytahdmfboidjkoaa.Crc
variable {R : Type}

theorem f86_eq {k : Nat} {bg : List Int} {out : List Pkt} (hB : B bg) (hM : out.length + bg.length ≤ 1000000) (hk : bg.length + 30 < k) (bad : Int) (hb : 0 ≤ bad ∧ bad ≤ 1000000) (X : Bool → Int → List Int → List Pkt → Option R) :
    f86 k true bad bg out X = apN X (drn bad bg out) := by
  rw [f86_def]
  obtain ⟨k, rfl⟩ : ∃ j, k = j + 1 := ⟨k - 1, by omega⟩
  simp only [f86d, f86_0_def]
  rw [f86_loop k X bad hb k bg out (by omega) hB hM (by omega), drain_fuel k (bg.length + 1) _ _ _ (by omega) (by omega)]
  rfl
theorem f51_loop (k : Nat) (C : Int → List Pkt → Option R) (l : List Fm) (hl : l.length ≤ 1000) (ho : ∀ y ∈ l, FmOk y) (hk : 1000100 < k) : ∀ (d f i : Nat) (u : Un) (bg' : List Int), i + d = l.length → d < f → UI i u → (u.w = false → bg' = u.bg) →
    f51_2d k (fun w b g o => C b o) l l (l.length : Int) f (i : Int) (!u.w) u.bad bg' u.out = C (unL (prevN l i) (l.drop i) u).bad (unL (prevN l i) (l.drop i) u).out := by
  intro d
  induction d with
  | zero =>
    intro f i u bg' hi hf hu hb
    obtain ⟨f, rfl⟩ : ∃ j, f = j + 1 := ⟨f - 1, by omega⟩
    have h1 : decide ((i : Int) < (l.length : Int)) = false := by simp only [decide_eq_false_iff_not]; omega
    simp only [f51_2d, f51_2b, h1, cond_false]
    rw [List.drop_of_length_le (by omega)]
    rfl
  | succ d ih =>
    intro f i u bg' hi hf hu hb
    obtain ⟨f, rfl⟩ : ∃ j, f = j + 1 := ⟨f - 1, by omega⟩
    have h1 : decide ((i : Int) < (l.length : Int)) = true := by simp only [decide_eq_true_eq]; omega
    have h0 : decide ((0 : Int) ≤ (i : Int)) = true := by simp
    have hli : i < l.length := by omega
    have w2 : IntKind.i64.wrap ((i : Int) + 1) = ((i + 1 : Nat) : Int) := by rw [wraps_i64 _ (by omega) (by omega)]; omega
    have hg : l.getD i (0, (0, (0, (0, (([] : List Int), ()))))) = l[i] := by rw [List.getD_eq_getElem?_getD, List.getElem?_eq_getElem hli]; rfl
    obtain ⟨y1, y2, y3, y4⟩ := ho _ (List.getElem_mem hli)
    obtain ⟨u1, u2, u3, u4⟩ := hu
    have hps := prevN_succ hli
    have hx : ∀ (w r : Bool) (b : Int) (g g' : List Int) (o : List Pkt), r = !w → (w = false → g = g') → UI (i + 1) ⟨w, b, g', o⟩ →
        f51_2d k (fun w b g o => C b o) l l (l.length : Int) f ((i + 1 : Nat) : Int) r b g o = C (unL (prevN l (i + 1)) (l.drop (i + 1)) ⟨w, b, g', o⟩).bad (unL (prevN l (i + 1)) (l.drop (i + 1)) ⟨w, b, g', o⟩).out :=
      fun w r b g g' o hr hw hU => by rw [hr]; exact ih f (i + 1) ⟨w, b, g', o⟩ g (by omega) (by omega) hU hw
    have hstep : ∀ (v : Un) (r : Bool) (bg'' : List Int), r = !v.w → v.out.length + v.bg.length ≤ 992 * i → B v.bg → (∀ y ∈ v.out, y.2.2.2.2.1.length ≤ 1000000) → (0 ≤ v.bad ∧ v.bad ≤ 2 * i + 1) → (v.w = false → bg'' = v.bg) →
        (bif !r then (bif ((l[i]).2.2.2.1 == 2047) then f51_2d k (fun w b g o => C b o) l l (l.length : Int) f ((i + 1 : Nat) : Int) r v.bad ([] : List Int) v.out
            else (bif (decide (0 ≤ (l[i]).2.2.2.1) && decide ((l[i]).2.2.2.1 ≤ ((l[i]).2.2.2.2.1.length : Int))) then
              f40 k ([([] : List Int), (l[i]).2.2.2.2.1.drop (Int.toNat (l[i]).2.2.2.1)] : List (List Int)) (fun r5 => f86 k true v.bad r5 v.out (fun w b g o => f51_2d k (fun w b g o => C b o) l l (l.length : Int) f ((i + 1 : Nat) : Int) w b g o)) else none))
          else f40 k ([bg'', (l[i]).2.2.2.2.1] : List (List Int)) (fun r5 => f86 k r v.bad r5 v.out (fun w b g o => f51_2d k (fun w b g o => C b o) l l (l.length : Int) f ((i + 1 : Nat) : Int) w b g o)))
          = C (unL (some (l[i]).2.2.1) (l.drop (i + 1)) (unS v (l[i]).2.2.2.1 (l[i]).2.2.2.2.1)).bad (unL (some (l[i]).2.2.1) (l.drop (i + 1)) (unS v (l[i]).2.2.2.1 (l[i]).2.2.2.2.1)).out := by
      intro v r bg'' hr v1 v2 v3 v4 v5
      have hU := unS_ok (d := (l[i]).2.2.2.1) (show i ≤ 1000 by omega) v1 v2 v3 v4 y4 y3
      have fin : ∀ (bg : List Int), B bg → v.out.length + bg.length ≤ 1000000 → unS v (l[i]).2.2.2.1 (l[i]).2.2.2.2.1 = drn v.bad bg v.out →
          f86 k true v.bad bg v.out (fun w b g o => f51_2d k (fun w b g o => C b o) l l (l.length : Int) f ((i + 1 : Nat) : Int) w b g o) = C (unL (some (l[i]).2.2.1) (l.drop (i + 1)) (unS v (l[i]).2.2.2.1 (l[i]).2.2.2.2.1)).bad (unL (some (l[i]).2.2.1) (l.drop (i + 1)) (unS v (l[i]).2.2.2.1 (l[i]).2.2.2.2.1)).out := by
        intro bg b1 b2 b3
        rw [f86_eq b1 b2 (by omega) v.bad (by omega)]
        rw [b3] at hU ⊢
        have := hx (drn v.bad bg v.out).w (!(drn v.bad bg v.out).w) (drn v.bad bg v.out).bad (drn v.bad bg v.out).bg (drn v.bad bg v.out).bg (drn v.bad bg v.out).out rfl (fun _ => rfl) hU
        rw [hps] at this
        exact this
      cases hw : v.w
      · have hb5 := v5 hw
        subst hb5
        rw [hw] at hr
        subst hr
        have hap : (v.bg ++ (l[i]).2.2.2.2.1).length = v.bg.length + (l[i]).2.2.2.2.1.length := List.length_append
        have hfl : [v.bg, (l[i]).2.2.2.2.1].flatten = v.bg ++ (l[i]).2.2.2.2.1 := by simp
        simp only [Bool.not_false, Bool.not_true, cond_false]
        rw [f40_eq _ (by simp) (by rw [hfl]; omega) k (by simp; omega), hfl]
        exact fin _ (v2.app y4) (by omega) (by unfold unS; rw [hw]; rfl)
      · rw [hw] at hr
        subst hr
        simp only [Bool.not_false, Bool.not_true, cond_true]
        by_cases e : (l[i]).2.2.2.1 = 2047
        · have e' : ((l[i]).2.2.2.1 == 2047) = true := by simp [e]
          have hs : unS v (l[i]).2.2.2.1 (l[i]).2.2.2.2.1 = v := by unfold unS; rw [if_pos hw, if_pos e]
          rw [hs] at hU ⊢
          have ev : v = ⟨true, v.bad, v.bg, v.out⟩ := by rw [← hw]
          simp only [e', cond_true]
          have := hx true false v.bad [] v.bg v.out rfl (fun h => by cases h) (ev ▸ hU)
          rw [this, hps]
          rw [← ev]
        · have e' : ((l[i]).2.2.2.1 == 2047) = false := by simp [e]
          have hd' : 0 ≤ (l[i]).2.2.2.1 ∧ (l[i]).2.2.2.1 ≤ (l[i]).2.2.2.2.1.length := by omega
          have q1 : decide (0 ≤ (l[i]).2.2.2.1) = true := by simp only [decide_eq_true_eq]; omega
          have q2 : decide ((l[i]).2.2.2.1 ≤ ((l[i]).2.2.2.2.1.length : Int)) = true := by simp only [decide_eq_true_eq]; omega
          have hl2 : ((l[i]).2.2.2.2.1.drop (l[i]).2.2.2.1.toNat).length ≤ (l[i]).2.2.2.2.1.length := by rw [List.length_drop]; omega
          have hfl : [([] : List Int), (l[i]).2.2.2.2.1.drop (l[i]).2.2.2.1.toNat].flatten = (l[i]).2.2.2.2.1.drop (l[i]).2.2.2.1.toNat := by simp
          simp only [e', cond_false, q1, q2, Bool.and_self, cond_true]
          rw [f40_eq _ (by simp) (by rw [hfl]; omega) k (by simp; omega), hfl]
          exact fin _ (y4.drop _) (by omega) (by unfold unS; rw [if_pos hw, if_neg e])
    simp only [f51_2d, f51_2b, f51_3_def, f51_3d, h1, h0, cond_true, Bool.and_self, Int.toNat_natCast, hg, w2, f51_1000021_def, f51_1000021d, f51_1000025_def, f51_1000025d]
    rw [List.drop_eq_getElem_cons hli]
    by_cases hi0 : i = 0
    · have q : (decide ((i : Int) > 0) == true) = false := by rw [beq_eq_false_iff_ne]; simp only [ne_eq, decide_eq_true_eq]; omega
      simp only [q, cond_false]
      rw [hstep u (!u.w) bg' rfl u1 u2 u3 ⟨u4.1, by omega⟩ hb]
      simp only [prevN, hi0, if_true, unL]
    · have q : (decide ((i : Int) > 0) == true) = true := by simp only [beq_iff_eq, decide_eq_true_eq]; omega
      have wp : IntKind.i64.wrap ((i : Int) - 1) = ((i - 1 : Nat) : Int) := by rw [wraps_i64 _ (by omega) (by omega)]; omega
      have p0 : decide ((0 : Int) ≤ ((i - 1 : Nat) : Int)) = true := by simp
      have p1 : decide (((i - 1 : Nat) : Int) < (l.length : Int)) = true := by simp only [decide_eq_true_eq]; omega
      have hli1 : i - 1 < l.length := by omega
      have hg1 : l.getD (i - 1) (0, (0, (0, (0, (([] : List Int), ()))))) = l[i - 1] := by rw [List.getD_eq_getElem?_getD, List.getElem?_eq_getElem hli1]; rfl
      have hy1 := (ho _ (List.getElem_mem hli1)).num
      have hprev : prevN l i = some (l[i - 1]).2.2.1 := by simp only [prevN, hi0, if_false, hg1]
      simp only [q, cond_true, wp, p0, p1, Bool.and_self, Int.toNat_natCast, hg1, hprev, unL]
      rw [wraps_i64 ((l[i - 1]).2.2.1 + 1) (by omega) (by omega), Int.tmod_eq_emod_of_nonneg (show 0 ≤ (l[i - 1]).2.2.1 + 1 by omega)]
      by_cases e1 : (l[i]).2.2.1 = (l[i - 1]).2.2.1
      · have e1' : ((l[i]).2.2.1 == (l[i - 1]).2.2.1) = true := by simp [e1]
        simp only [e1', cond_true, e1, if_true, beq_self_eq_true]
        have := hx u.w (!u.w) u.bad bg' u.bg u.out rfl hb ⟨by show u.out.length + u.bg.length ≤ _; omega, u2, u3, by show 0 ≤ u.bad ∧ u.bad ≤ _; omega⟩
        rw [hps, e1] at this
        exact this
      · have e1' : ((l[i]).2.2.1 == (l[i - 1]).2.2.1) = false := by simp [e1]
        simp only [e1', cond_false, e1, if_false]
        by_cases e2 : (l[i]).2.2.1 = ((l[i - 1]).2.2.1 + 1) % 256
        · have e2' : ((l[i]).2.2.1 != ((l[i - 1]).2.2.1 + 1) % 256) = false := by simp [e2]
          simp only [e2', cond_false]
          rw [if_pos e2]
          exact hstep u (!u.w) bg' rfl u1 u2 u3 ⟨u4.1, by omega⟩ hb
        · have e2' : ((l[i]).2.2.1 != ((l[i - 1]).2.2.1 + 1) % 256) = true := by simp [e2]
          simp only [e2', cond_true]
          rw [if_neg e2, wraps_i64 (u.bad + 1) (by omega) (by omega)]
          exact hstep ⟨true, u.bad + 1, [], u.out⟩ false bg' rfl (by show u.out.length + 0 ≤ _; omega) B.nil u3 ⟨by show 0 ≤ u.bad + 1; omega, by show u.bad + 1 ≤ _; omega⟩ (fun h => by cases h)

/-! the frames are looked at -/
def uchk (n : Int) (z : Fm) : List Fm → Int
  | [] => 0
  | y :: l => if chkF y.1 y.2.1 y.2.2.1 y.2.2.2.1 y.2.2.2.2.1 n ≠ 0 then chkF y.1 y.2.1 y.2.2.1 y.2.2.2.1 y.2.2.2.2.1 n else if y.1 = z.1 ∧ y.2.1 = z.2.1 then uchk n z l else 12
theorem uchk_1 {n : Int} {z x : Fm} {l : List Fm} (e : chkF x.1 x.2.1 x.2.2.1 x.2.2.2.1 x.2.2.2.2.1 n ≠ 0) : uchk n z (x :: l) = chkF x.1 x.2.1 x.2.2.1 x.2.2.2.1 x.2.2.2.2.1 n := by simp only [uchk]; rw [if_pos e]
theorem uchk_2 {n : Int} {z x : Fm} {l : List Fm} (e : chkF x.1 x.2.1 x.2.2.1 x.2.2.2.1 x.2.2.2.2.1 n = 0) (e2 : ¬ (x.1 = z.1 ∧ x.2.1 = z.2.1)) : uchk n z (x :: l) = 12 := by simp only [uchk]; rw [if_neg (by simpa using e), if_neg e2]
theorem uchk_3 {n : Int} {z x : Fm} {l : List Fm} (e : chkF x.1 x.2.1 x.2.2.1 x.2.2.2.1 x.2.2.2.2.1 n = 0) (e2 : x.1 = z.1 ∧ x.2.1 = z.2.1) : uchk n z (x :: l) = uchk n z l := by simp only [uchk]; rw [if_neg (by simpa using e), if_pos e2]
def hd0 (l : List Fm) : Fm := l.getD 0 (0, (0, (0, (0, ([], ())))))
theorem uchk_ok {n : Int} {z : Fm} : ∀ {l : List Fm}, uchk n z l = 0 → (∀ y ∈ l, B y.2.2.2.2.1) → ∀ y ∈ l, FmOk y
  | [], _, _, y, hy => by cases hy
  | x :: l, h, hB, y, hy => by
    simp only [uchk] at h
    by_cases e : chkF x.1 x.2.1 x.2.2.1 x.2.2.2.1 x.2.2.2.2.1 n = 0
    · by_cases e2 : x.1 = z.1 ∧ x.2.1 = z.2.1
      · rw [if_neg (by simpa using e), if_pos e2] at h
        rcases List.mem_cons.1 hy with rfl | hy
        · exact chkF_ok e (hB _ (by simp))
        · exact uchk_ok h (fun q hq => hB q (by simp [hq])) y hy
      · rw [if_neg (by simpa using e), if_neg e2] at h; cases h
    · rw [if_pos e] at h; exact absurd h e
theorem f50_chk (k : Nat) (hk : 4 < k) (K : Int → Int → List Pkt → Option R) (x1 : Option R) (n : Int) (l : List Fm) (hl : l.length ≤ 1000) (hb : ∀ y ∈ l, y.2.2.2.2.1.length < 4611686018427387904) : ∀ (d f i : Nat), i + d = l.length → d < f →
    f50_1d k K x1 l n l (l.length : Int) f (i : Int) = if uchk n (hd0 l) (l.drop i) = 0 then x1 else K 0 (uchk n (hd0 l) (l.drop i)) []
  | d, 0, i, _, h => absurd h (Nat.not_lt_zero _)
  | 0, f + 1, i, hi, _ => by
    have h1 : decide ((i : Int) < (l.length : Int)) = false := by simp only [decide_eq_false_iff_not]; omega
    simp only [f50_1d, f50_1b, h1, cond_false]
    rw [List.drop_of_length_le (by omega)]
    simp [uchk]
  | d + 1, f + 1, i, hi, hf => by
    have h1 : decide ((i : Int) < (l.length : Int)) = true := by simp only [decide_eq_true_eq]; omega
    have h0 : decide ((0 : Int) ≤ (i : Int)) = true := by simp
    have h2 : decide ((0 : Int) < (l.length : Int)) = true := by simp only [decide_eq_true_eq]; omega
    have hli : i < l.length := by omega
    have w2 : IntKind.i64.wrap ((i : Int) + 1) = ((i + 1 : Nat) : Int) := by rw [wraps_i64 _ (by omega) (by omega)]; omega
    have hg : l.getD i (0, (0, (0, (0, (([] : List Int), ()))))) = l[i] := by rw [List.getD_eq_getElem?_getD, List.getElem?_eq_getElem hli]; rfl
    have hz : l.getD 0 (0, (0, (0, (0, (([] : List Int), ()))))) = hd0 l := rfl
    simp only [f50_1d, f50_1b, h1, h0, h2, cond_true, Bool.and_self, Int.toNat_natCast, hg, hz, w2]
    rw [f35_eq k hk _ _ _ _ _ n (hb _ (List.getElem_mem hli)), List.drop_eq_getElem_cons hli]
    by_cases e : chkF (l[i]).1 (l[i]).2.1 (l[i]).2.2.1 (l[i]).2.2.2.1 (l[i]).2.2.2.2.1 n = 0
    · have e' : (chkF (l[i]).1 (l[i]).2.1 (l[i]).2.2.1 (l[i]).2.2.2.1 (l[i]).2.2.2.2.1 n != 0) = false := by simp [e]
      by_cases e1 : (l[i]).1 = (hd0 l).1
      · have e1' : ((l[i]).1 != (hd0 l).1) = false := by simp [e1]
        by_cases e2 : (l[i]).2.1 = (hd0 l).2.1
        · have e2' : ((l[i]).2.1 != (hd0 l).2.1) = false := by simp [e2]
          rw [uchk_3 e ⟨e1, e2⟩]
          simp only [e', e1', e2', cond_false, cond_true, beq_self_eq_true]
          exact f50_chk k hk K x1 n l hl hb d f (i + 1) (by omega) (by omega)
        · have e2' : ((l[i]).2.1 != (hd0 l).2.1) = true := by simp [e2]
          rw [uchk_2 e (fun h => e2 h.2)]
          simp only [e', e1', e2', cond_false, cond_true, beq_self_eq_true]
          rfl
      · have e1' : ((l[i]).1 != (hd0 l).1) = true := by simp [e1]
        rw [uchk_2 e (fun h => e1 h.1)]
        simp only [e', e1', cond_false, cond_true]
        rfl
    · have e' : (chkF (l[i]).1 (l[i]).2.1 (l[i]).2.2.1 (l[i]).2.2.2.1 (l[i]).2.2.2.2.1 n != 0) = true := by simp [e]
      rw [uchk_1 e, if_neg e]
      simp only [e', cond_true]
theorem f51_chk (k : Nat) (hk : 4 < k) (K : Int → Int → List Pkt → Option R) (x1 : Option R) (n : Int) (l : List Fm) (hl : l.length ≤ 1000) (hb : ∀ y ∈ l, y.2.2.2.2.1.length < 4611686018427387904) : ∀ (d f i : Nat), i + d = l.length → d < f →
    f51_0d k K x1 l n l (l.length : Int) f (i : Int) = if uchk n (hd0 l) (l.drop i) = 0 then x1 else K 0 (uchk n (hd0 l) (l.drop i)) []
  | d, 0, i, _, h => absurd h (Nat.not_lt_zero _)
  | 0, f + 1, i, hi, _ => by
    have h1 : decide ((i : Int) < (l.length : Int)) = false := by simp only [decide_eq_false_iff_not]; omega
    simp only [f51_0d, f51_0b, h1, cond_false]
    rw [List.drop_of_length_le (by omega)]
    simp [uchk]
  | d + 1, f + 1, i, hi, hf => by
    have h1 : decide ((i : Int) < (l.length : Int)) = true := by simp only [decide_eq_true_eq]; omega
    have h0 : decide ((0 : Int) ≤ (i : Int)) = true := by simp
    have h2 : decide ((0 : Int) < (l.length : Int)) = true := by simp only [decide_eq_true_eq]; omega
    have hli : i < l.length := by omega
    have w2 : IntKind.i64.wrap ((i : Int) + 1) = ((i + 1 : Nat) : Int) := by rw [wraps_i64 _ (by omega) (by omega)]; omega
    have hg : l.getD i (0, (0, (0, (0, (([] : List Int), ()))))) = l[i] := by rw [List.getD_eq_getElem?_getD, List.getElem?_eq_getElem hli]; rfl
    have hz : l.getD 0 (0, (0, (0, (0, (([] : List Int), ()))))) = hd0 l := rfl
    simp only [f51_0d, f51_0b, h1, h0, h2, cond_true, Bool.and_self, Int.toNat_natCast, hg, hz, w2]
    rw [f36_eq k hk _ _ _ _ _ n (hb _ (List.getElem_mem hli)), List.drop_eq_getElem_cons hli]
    by_cases e : chkF (l[i]).1 (l[i]).2.1 (l[i]).2.2.1 (l[i]).2.2.2.1 (l[i]).2.2.2.2.1 n = 0
    · have e' : (chkF (l[i]).1 (l[i]).2.1 (l[i]).2.2.1 (l[i]).2.2.2.1 (l[i]).2.2.2.2.1 n != 0) = false := by simp [e]
      by_cases e1 : (l[i]).1 = (hd0 l).1
      · have e1' : ((l[i]).1 != (hd0 l).1) = false := by simp [e1]
        by_cases e2 : (l[i]).2.1 = (hd0 l).2.1
        · have e2' : ((l[i]).2.1 != (hd0 l).2.1) = false := by simp [e2]
          rw [uchk_3 e ⟨e1, e2⟩]
          simp only [e', e1', e2', cond_false, cond_true, beq_self_eq_true]
          exact f51_chk k hk K x1 n l hl hb d f (i + 1) (by omega) (by omega)
        · have e2' : ((l[i]).2.1 != (hd0 l).2.1) = true := by simp [e2]
          rw [uchk_2 e (fun h => e2 h.2)]
          simp only [e', e1', e2', cond_false, cond_true, beq_self_eq_true]
          rfl
      · have e1' : ((l[i]).1 != (hd0 l).1) = true := by simp [e1]
        rw [uchk_2 e (fun h => e1 h.1)]
        simp only [e', e1', cond_false, cond_true]
        rfl
    · have e' : (chkF (l[i]).1 (l[i]).2.1 (l[i]).2.2.1 (l[i]).2.2.2.1 (l[i]).2.2.2.2.1 n != 0) = true := by simp [e]
      rw [uchk_1 e, if_neg e]
      simp only [e', cond_true]
def u0 : Un := ⟨true, 0, [], []⟩
def unpF (l : List Fm) (n : Int) : Int × Int × List Pkt :=
  if chkN n ≠ 0 then (0, 1, []) else if 1000 < l.length then (0, 2, []) else if uchk n (hd0 l) l ≠ 0 then (0, uchk n (hd0 l) l, []) else ((unL none l u0).bad, 0, (unL none l u0).out)
theorem chkN_one {n : Int} (h : chkN n ≠ 0) : chkN n = 1 := by unfold chkN at h ⊢; split at h <;> simp_all
theorem u0_ok : UI 0 u0 := ⟨by simp [u0], B.nil, by simp [u0], by simp [u0]⟩
theorem f50_eq {k : Nat} (l : List Fm) (n : Int) (hB : ∀ y ∈ l, B y.2.2.2.2.1) (hb : ∀ y ∈ l, y.2.2.2.2.1.length < 4611686018427387904) (hk : 1000200 < k) (K : Int → Int → List Pkt → Option R) : f50 k l n K = K (unpF l n).1 (unpF l n).2.1 (unpF l n).2.2 := by
  rw [f50_def]
  obtain ⟨k, rfl⟩ : ∃ j, k = j + 1 := ⟨k - 1, by omega⟩
  simp only [f50d, f75_eq k (show 2 < k by omega), unpF]
  by_cases h : chkN n = 0
  · by_cases h2 : 1000 < l.length
    · have q : decide ((l.length : Int) > 1000) = true := by simp only [decide_eq_true_eq]; omega
      simp [h, h2, q]
    · have q : decide ((l.length : Int) > 1000) = false := by simp only [decide_eq_false_iff_not]; omega
      simp only [h, h2, q, bne_self_eq_false, cond_false, ne_eq, not_true_eq_false, if_false, f50_1_def, f50_3_def]
      refine (f50_chk k (by omega) K _ n l (by omega) hb l.length k 0 (by omega) (by omega)).trans ?_
      rw [List.drop_zero]
      by_cases e : uchk n (hd0 l) l = 0
      · rw [if_pos e]
        simp only [e, not_true_eq_false, if_false]
        exact f50_loop k (fun b o => K b 0 o) l (by omega) (uchk_ok e hB) (by omega) l.length k 0 u0 [] (by omega) (by omega) u0_ok (fun h => by cases h)
      · rw [if_neg e]
        simp [e]
  · have := chkN_one h
    have h' : (chkN n != 0) = true := by simp [h]
    simp [h, h', this]
theorem f51_eq {k : Nat} (l : List Fm) (n : Int) (hB : ∀ y ∈ l, B y.2.2.2.2.1) (hb : ∀ y ∈ l, y.2.2.2.2.1.length < 4611686018427387904) (hk : 1000200 < k) (K : Int → Int → List Pkt → Option R) : f51 k l n K = K (unpF l n).1 (unpF l n).2.1 (unpF l n).2.2 := by
  rw [f51_def]
  obtain ⟨k, rfl⟩ : ∃ j, k = j + 1 := ⟨k - 1, by omega⟩
  simp only [f51d, f76_eq k (show 2 < k by omega), unpF]
  by_cases h : chkN n = 0
  · by_cases h2 : 1000 < l.length
    · have q : decide ((l.length : Int) > 1000) = true := by simp only [decide_eq_true_eq]; omega
      simp [h, h2, q]
    · have q : decide ((l.length : Int) > 1000) = false := by simp only [decide_eq_false_iff_not]; omega
      simp only [h, h2, q, bne_self_eq_false, cond_false, ne_eq, not_true_eq_false, if_false, f51_0_def, f51_2_def]
      refine (f51_chk k (by omega) K _ n l (by omega) hb l.length k 0 (by omega) (by omega)).trans ?_
      rw [List.drop_zero]
      by_cases e : uchk n (hd0 l) l = 0
      · rw [if_pos e]
        simp only [e, not_true_eq_false, if_false]
        exact f51_loop k (fun b o => K b 0 o) l (by omega) (uchk_ok e hB) (by omega) l.length k 0 u0 [] (by omega) (by omega) u0_ok (fun h => by cases h)
      · rw [if_neg e]
        simp [e]
  · have := chkN_one h
    have h' : (chkN n != 0) = true := by simp [h]
    simp [h, h', this]
theorem unL_ok : ∀ (l : List Fm) (i : Nat) (p : Option Int) (u : Un), i + l.length ≤ 1000 → (∀ y ∈ l, FmOk y) → UI i u → UI (i + l.length) (unL p l u)
  | [], i, p, u, _, _, h => h
  | y :: l, i, p, u, hi, ho, h => by
    simp only [List.length_cons] at hi
    obtain ⟨y1, y2, y3, y4⟩ := ho y (by simp)
    obtain ⟨u1, u2, u3, u4⟩ := h
    simp only [unL, List.length_cons]
    rw [show i + (l.length + 1) = i + 1 + l.length by omega]
    refine unL_ok l (i + 1) _ _ (by omega) (fun q hq => ho q (by simp [hq])) ?_
    cases p with
    | none => exact unS_ok (by omega) u1 u2 u3 ⟨u4.1, by omega⟩ y4 y3
    | some q =>
      show UI (i + 1) (if y.2.2.1 = q then u else unS (if y.2.2.1 = (q + 1) % 256 then u else ⟨true, u.bad + 1, [], u.out⟩) y.2.2.2.1 y.2.2.2.2.1)
      split
      · exact ⟨by omega, u2, u3, by omega⟩
      · split
        · exact unS_ok (by omega) u1 u2 u3 ⟨u4.1, by omega⟩ y4 y3
        · exact unS_ok (by omega) (by show u.out.length + 0 ≤ _; omega) B.nil u3 ⟨by show 0 ≤ u.bad + 1; omega, by show u.bad + 1 ≤ _; omega⟩ y4 y3
theorem unpF_ok (l : List Fm) (n : Int) (hB : ∀ y ∈ l, B y.2.2.2.2.1) : (unpF l n).2.2.length ≤ 1000000 ∧ ∀ y ∈ (unpF l n).2.2, y.2.2.2.2.1.length ≤ 1000000 := by
  unfold unpF
  split
  · exact ⟨by simp, by simp⟩
  · split
    · exact ⟨by simp, by simp⟩
    · split
      · exact ⟨by simp, by simp⟩
      · rename_i h1 h2 h3
        have e : uchk n (hd0 l) l = 0 := by simpa using h3
        have hu := unL_ok l 0 none u0 (by omega) (uchk_ok e hB) u0_ok
        have := hu.tot
        exact ⟨by show (unL none l u0).out.length ≤ _; omega, hu.body⟩
theorem f12_eq {k : Nat} (l : List Fm) (n : Int) (hB : ∀ y ∈ l, B y.2.2.2.2.1) (hb : ∀ y ∈ l, y.2.2.2.2.1.length < 4611686018427387904) (hk : 1000300 < k) (K : Bool → Option R) : f12 k l n K = K true := by
  rw [f12_def]
  obtain ⟨k, rfl⟩ : ∃ j, k = j + 1 := ⟨k - 1, by omega⟩
  obtain ⟨o1, o2⟩ := unpF_ok l n hB
  simp only [f12d, f50_eq l n hB hb (show 1000200 < k by omega), f51_eq l n hB hb (show 1000200 < k by omega), beq_self_eq_true, cond_true]
  rw [f27_eq (unpF l n).2.2 (by omega) k (by omega) (fun y hy => ⟨by have := o2 y hy; omega, by have := o2 y hy; omega⟩)]
  simp only [beq_self_eq_true, cond_true, f21_eq k (by omega)]
end Go.Proofs.Ytahdmfboidjkoaa.PM

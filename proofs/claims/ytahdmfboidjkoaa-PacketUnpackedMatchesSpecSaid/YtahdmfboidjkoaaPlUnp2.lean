/- The law of unpacking: the frames. -/
import Derived.Test.YtahdmfboidjkoaaPlUnp
set_option linter.unusedSimpArgs false
set_option linter.unusedVariables false
namespace Go.Proofs.Ytahdmfboidjkoaa.PM
open Go Go.Proofs.Ytahdmfboidjkoaa.Bt Go.Proofs.Ytahdmfboidjkoaa.Crc
variable {R : Type}

def unL : Option Int → List Fm → Un → Un
  | _, [], u => u
  | p, y :: l, u => unL (some y.2.2.1) l (match p with
    | none => unS u y.2.2.2.1 y.2.2.2.2.1
    | some q => if y.2.2.1 = q then u else unS (if y.2.2.1 = (q + 1) % 256 then u else ⟨true, u.bad + 1, [], u.out⟩) y.2.2.2.1 y.2.2.2.2.1)
structure FmOk (y : Fm) : Prop where
  num : 0 ≤ y.2.2.1 ∧ y.2.2.1 ≤ 255
  fst : y.2.2.2.1 = 2047 ∨ (0 ≤ y.2.2.2.1 ∧ y.2.2.2.1 ≤ y.2.2.2.2.1.length)
  len : y.2.2.2.2.1.length ≤ 992
  byt : B y.2.2.2.2.1
theorem chkF_ok {y : Fm} {n : Int} (h : chkF y.1 y.2.1 y.2.2.1 y.2.2.2.1 y.2.2.2.2.1 n = 0) (hB : B y.2.2.2.2.1) : FmOk y := by
  obtain ⟨r1, r2, r3, r4, r5, r6⟩ := chkF_right h
  refine ⟨r4, ?_, by omega, hB⟩
  by_cases e : y.2.2.2.1 = 2047
  · exact Or.inl e
  · right
    unfold chkF at h
    rw [if_neg (by omega), if_neg (by omega), if_neg (by omega), if_neg (by omega), if_neg (by omega), if_neg e] at h
    split at h
    · cases h
    · omega
structure UI (i : Nat) (u : Un) : Prop where
  tot : u.out.length + u.bg.length ≤ 992 * i
  byt : B u.bg
  body : ∀ y ∈ u.out, y.2.2.2.2.1.length ≤ 1000000
  bad : 0 ≤ u.bad ∧ u.bad ≤ 2 * i
theorem unS_ok {i : Nat} (hi : i ≤ 1000) {u : Un} {d : Int} {l : List Int} (ht : u.out.length + u.bg.length ≤ 992 * i) (hb : B u.bg) (ho : ∀ y ∈ u.out, y.2.2.2.2.1.length ≤ 1000000) (hbad : 0 ≤ u.bad ∧ u.bad ≤ 2 * i + 1) (hl : B l) (hn : l.length ≤ 992) : UI (i + 1) (unS u d l) := by
  unfold unS
  split
  · split
    · exact ⟨by omega, hb, ho, by omega⟩
    · have hd : (l.drop d.toNat).length ≤ l.length := by rw [List.length_drop]; omega
      obtain ⟨a1, a2, a3, a4, a5⟩ := drain_ok ((l.drop d.toNat).length + 1) u.bad (l.drop d.toNat) u.out (992 * (i + 1)) (by omega) (hl.drop _) (by omega) (by omega) ho
      exact ⟨a2, a1, a3, by show 0 ≤ (drain ((l.drop d.toNat).length + 1) u.bad (l.drop d.toNat) u.out).bad; omega, by show (drain ((l.drop d.toNat).length + 1) u.bad (l.drop d.toNat) u.out).bad ≤ _; omega⟩
  · have hap : (u.bg ++ l).length = u.bg.length + l.length := List.length_append
    obtain ⟨a1, a2, a3, a4, a5⟩ := drain_ok ((u.bg ++ l).length + 1) u.bad (u.bg ++ l) u.out (992 * (i + 1)) (by omega) (hb.app hl) (by omega) (by omega) ho
    exact ⟨a2, a1, a3, by show 0 ≤ (drain ((u.bg ++ l).length + 1) u.bad (u.bg ++ l) u.out).bad; omega, by show (drain ((u.bg ++ l).length + 1) u.bad (u.bg ++ l) u.out).bad ≤ _; omega⟩
def prevN (l : List Fm) (i : Nat) : Option Int := if i = 0 then none else some (l.getD (i - 1) (0, (0, (0, (0, ([], ())))))).2.2.1
theorem prevN_succ {l : List Fm} {i : Nat} (h : i < l.length) : prevN l (i + 1) = some (l[i]).2.2.1 := by
  simp only [prevN, Nat.add_one_ne_zero, if_false, Nat.add_sub_cancel]
  rw [List.getD_eq_getElem?_getD, List.getElem?_eq_getElem h]; rfl
theorem f50_loop (k : Nat) (C : Int → List Pkt → Option R) (l : List Fm) (hl : l.length ≤ 1000) (ho : ∀ y ∈ l, FmOk y) (hk : 1000100 < k) : ∀ (d f i : Nat) (u : Un) (bg' : List Int), i + d = l.length → d < f → UI i u → (u.w = false → bg' = u.bg) →
    f50_3d k (fun w b g o => C b o) l l (l.length : Int) f (i : Int) u.w u.bad bg' u.out = C (unL (prevN l i) (l.drop i) u).bad (unL (prevN l i) (l.drop i) u).out := by
  intro d
  induction d with
  | zero =>
    intro f i u bg' hi hf hu hb
    obtain ⟨f, rfl⟩ : ∃ j, f = j + 1 := ⟨f - 1, by omega⟩
    have h1 : decide ((i : Int) < (l.length : Int)) = false := by simp only [decide_eq_false_iff_not]; omega
    simp only [f50_3d, f50_3b, h1, cond_false]
    rw [List.drop_of_length_le (by omega)]
    rfl
  | succ d ih =>
    intro f i u bg' hi hf hu hb
    obtain ⟨f, rfl⟩ : ∃ j, f = j + 1 := ⟨f - 1, by omega⟩
    have h1 : decide ((i : Int) < (l.length : Int)) = true := by simp only [decide_eq_true_eq]; omega
    have h0 : decide ((0 : Int) ≤ (i : Int)) = true := by simp
    have hli : i < l.length := by omega
    have w2 : IntKind.i64.wrap ((i : Int) + 1) = ((i + 1 : Nat) : Int) := by rw [wraps_i64 _ (by omega) (by omega)]; omega
    have hg : l.getD i (0, (0, (0, (0, (([] : List Int), ()))))) = l[i] := by rw [List.getD_eq_getElem?_getD, List.getElem?_eq_getElem hli]; rfl
    obtain ⟨y1, y2, y3, y4⟩ := ho _ (List.getElem_mem hli)
    obtain ⟨u1, u2, u3, u4⟩ := hu
    have hps := prevN_succ hli
    have hx : ∀ (w : Bool) (b : Int) (g g' : List Int) (o : List Pkt), (w = false → g = g') → UI (i + 1) ⟨w, b, g', o⟩ →
        f50_3d k (fun w b g o => C b o) l l (l.length : Int) f ((i + 1 : Nat) : Int) w b g o = C (unL (prevN l (i + 1)) (l.drop (i + 1)) ⟨w, b, g', o⟩).bad (unL (prevN l (i + 1)) (l.drop (i + 1)) ⟨w, b, g', o⟩).out :=
      fun w b g g' o hw hU => ih f (i + 1) ⟨w, b, g', o⟩ g (by omega) (by omega) hU hw
    have hstep : ∀ (v : Un) (bg'' : List Int), v.out.length + v.bg.length ≤ 992 * i → B v.bg → (∀ y ∈ v.out, y.2.2.2.2.1.length ≤ 1000000) → (0 ≤ v.bad ∧ v.bad ≤ 2 * i + 1) → (v.w = false → bg'' = v.bg) →
        f85 k (l[i]).1 (l[i]).2.1 (l[i]).2.2.1 (l[i]).2.2.2.1 (l[i]).2.2.2.2.1 v.w v.bad bg'' v.out (fun w b g o => f50_3d k (fun w b g o => C b o) l l (l.length : Int) f ((i + 1 : Nat) : Int) w b g o)
          = C (unL (some (l[i]).2.2.1) (l.drop (i + 1)) (unS v (l[i]).2.2.2.1 (l[i]).2.2.2.2.1)).bad (unL (some (l[i]).2.2.1) (l.drop (i + 1)) (unS v (l[i]).2.2.2.1 (l[i]).2.2.2.2.1)).out := by
      intro v bg'' v1 v2 v3 v4 v5
      have hU := unS_ok (d := (l[i]).2.2.2.1) (show i ≤ 1000 by omega) v1 v2 v3 v4 y4 y3
      by_cases hcase : v.w = true ∧ (l[i]).2.2.2.1 = 2047
      · have hs : unS v (l[i]).2.2.2.1 (l[i]).2.2.2.2.1 = v := by unfold unS; rw [if_pos hcase.1, if_pos hcase.2]
        rw [hs] at hU ⊢
        rw [f85_def]
        obtain ⟨k', rfl⟩ : ∃ j, k = j + 1 := ⟨k - 1, by omega⟩
        simp only [f85d, f85_1000003_def, f85_1000003d, hcase.1, hcase.2, cond_true, beq_self_eq_true]
        have ev : v = ⟨true, v.bad, v.bg, v.out⟩ := by rw [← hcase.1]
        have := hx true v.bad bg'' v.bg v.out (fun h => by cases h) (ev ▸ hU)
        rw [this, hps]
        rw [← ev]
      · rw [f85_def]
        obtain ⟨k', rfl⟩ : ∃ j, k = j + 1 := ⟨k - 1, by omega⟩
        have L1 : LIM 1 = 140737488355328 := by simp [LIM]
        have fin : ∀ (bg : List Int), B bg → v.out.length + bg.length ≤ 1000000 → unS v (l[i]).2.2.2.1 (l[i]).2.2.2.2.1 = drn v.bad bg v.out →
            f85_0d k' (fun w b g o => f50_3d (k' + 1) (fun w b g o => C b o) l l (l.length : Int) f ((i + 1 : Nat) : Int) w b g o) false v.bad k' bg v.out = C (unL (some (l[i]).2.2.1) (l.drop (i + 1)) (unS v (l[i]).2.2.2.1 (l[i]).2.2.2.2.1)).bad (unL (some (l[i]).2.2.1) (l.drop (i + 1)) (unS v (l[i]).2.2.2.1 (l[i]).2.2.2.2.1)).out := by
          intro bg b1 b2 b3
          rw [f85_loop k' _ v.bad (by omega) k' bg v.out (by omega) b1 b2 (by omega), drain_fuel k' (bg.length + 1) _ _ _ (by omega) (by omega)]
          rw [b3] at hU ⊢
          have := hx (drn v.bad bg v.out).w (drn v.bad bg v.out).bad (drn v.bad bg v.out).bg (drn v.bad bg v.out).bg (drn v.bad bg v.out).out (fun _ => rfl) hU
          rw [hps] at this
          exact this
        simp only [f85d, f85_1000003_def, f85_1000003d, f85_0_def]
        cases hw : v.w
        · have hb5 := v5 hw
          subst hb5
          have hap : (v.bg ++ (l[i]).2.2.2.2.1).length = v.bg.length + (l[i]).2.2.2.2.1.length := List.length_append
          have q : decide (v.bg.length + (l[i]).2.2.2.2.1.length ≤ LIM 1) = true := by rw [L1]; simp only [decide_eq_true_eq]; omega
          simp only [cond_false, q, cond_true]
          exact fin _ (v2.app y4) (by omega) (by unfold unS; rw [hw]; rfl)
        · have e : ¬ (l[i]).2.2.2.1 = 2047 := fun e => hcase ⟨hw, e⟩
          have e' : ((l[i]).2.2.2.1 == 2047) = false := by simp [e]
          have hd' : 0 ≤ (l[i]).2.2.2.1 ∧ (l[i]).2.2.2.1 ≤ (l[i]).2.2.2.2.1.length := by omega
          have q1 : decide (0 ≤ (l[i]).2.2.2.1) = true := by simp only [decide_eq_true_eq]; omega
          have q2 : decide ((l[i]).2.2.2.1 ≤ ((l[i]).2.2.2.2.1.length : Int)) = true := by simp only [decide_eq_true_eq]; omega
          have hl2 : ((l[i]).2.2.2.2.1.drop (l[i]).2.2.2.1.toNat).length ≤ (l[i]).2.2.2.2.1.length := by rw [List.length_drop]; omega
          have q : decide (([] : List Int).length + ((l[i]).2.2.2.2.1.drop (l[i]).2.2.2.1.toNat).length ≤ LIM 1) = true := by rw [L1]; simp only [decide_eq_true_eq, List.length_nil]; omega
          simp only [cond_true, e', cond_false, q1, q2, Bool.and_self, q, List.nil_append]
          exact fin _ (y4.drop _) (by omega) (by unfold unS; rw [if_pos hw, if_neg e])
    simp only [f50_3d, f50_3b, f50_4_def, f50_4d, h1, h0, cond_true, Bool.and_self, Int.toNat_natCast, hg, w2, f50_1000019_def, f50_1000019d]
    rw [List.drop_eq_getElem_cons hli]
    by_cases hi0 : i = 0
    · have q : decide ((i : Int) > 0) = false := by simp only [decide_eq_false_iff_not]; omega
      simp only [q, cond_false]
      rw [hstep u bg' u1 u2 u3 ⟨u4.1, by omega⟩ hb]
      simp only [prevN, hi0, if_true, unL]
    · have q : decide ((i : Int) > 0) = true := by simp only [decide_eq_true_eq]; omega
      have wp : IntKind.i64.wrap ((i : Int) - 1) = ((i - 1 : Nat) : Int) := by rw [wraps_i64 _ (by omega) (by omega)]; omega
      have p0 : decide ((0 : Int) ≤ ((i - 1 : Nat) : Int)) = true := by simp
      have p1 : decide (((i - 1 : Nat) : Int) < (l.length : Int)) = true := by simp only [decide_eq_true_eq]; omega
      have hli1 : i - 1 < l.length := by omega
      have hg1 : l.getD (i - 1) (0, (0, (0, (0, (([] : List Int), ()))))) = l[i - 1] := by rw [List.getD_eq_getElem?_getD, List.getElem?_eq_getElem hli1]; rfl
      have hy1 := (ho _ (List.getElem_mem hli1)).num
      have hprev : prevN l i = some (l[i - 1]).2.2.1 := by simp only [prevN, hi0, if_false, hg1]
      simp only [q, cond_true, wp, p0, p1, Bool.and_self, Int.toNat_natCast, hg1, hprev, unL]
      rw [wraps_i64 ((l[i - 1]).2.2.1 + 1) (by omega) (by omega), Int.tmod_eq_emod_of_nonneg (show 0 ≤ (l[i - 1]).2.2.1 + 1 by omega)]
      by_cases e1 : (l[i]).2.2.1 = (l[i - 1]).2.2.1
      · have e1' : ((l[i]).2.2.1 == (l[i - 1]).2.2.1) = true := by simp [e1]
        simp only [e1', cond_true, e1, if_true, beq_self_eq_true]
        have := hx u.w u.bad bg' u.bg u.out hb ⟨by show u.out.length + u.bg.length ≤ _; omega, u2, u3, by show 0 ≤ u.bad ∧ u.bad ≤ _; omega⟩
        rw [hps, e1] at this
        exact this
      · have e1' : ((l[i]).2.2.1 == (l[i - 1]).2.2.1) = false := by simp [e1]
        simp only [e1', cond_false, e1, if_false, f50_1000022_def, f50_1000022d]
        by_cases e2 : (l[i]).2.2.1 = ((l[i - 1]).2.2.1 + 1) % 256
        · have e2' : ((l[i]).2.2.1 != ((l[i - 1]).2.2.1 + 1) % 256) = false := by simp [e2]
          simp only [e2', cond_false]
          rw [if_pos e2]
          exact hstep u bg' u1 u2 u3 ⟨u4.1, by omega⟩ hb
        · have e2' : ((l[i]).2.2.1 != ((l[i - 1]).2.2.1 + 1) % 256) = true := by simp [e2]
          simp only [e2', cond_true]
          rw [if_neg e2, wraps_i64 (u.bad + 1) (by omega) (by omega)]
          exact hstep ⟨true, u.bad + 1, [], u.out⟩ bg' (by show u.out.length + 0 ≤ _; omega) B.nil u3 ⟨by show 0 ≤ u.bad + 1; omega, by show u.bad + 1 ≤ _; omega⟩ (fun h => by cases h)
end Go.Proofs.Ytahdmfboidjkoaa.PM

/- Plain laws of commands: what is taken is a beginning of the queue. -/
import Derived.Test.YtadkplikobhckaaPlRef
set_option linter.unusedSimpArgs false
set_option linter.unusedVariables false
namespace Go.Proofs.Ytadkplikobhckaa.PM
open Go Go.Proofs.Ytadkplikobhckaa.Bt
variable {R : Type}

theorem tmod_below {x n : Int} (hn : 0 < n) : (if Int.tmod x n < 0 then Int.tmod x n + n else Int.tmod x n) = x % n := by
  have h : Int.tmod x n = x % n - ((if 0 ≤ x ∨ n ∣ x then 0 else n.natAbs : Nat) : Int) := Int.tmod_eq_emod
  have h1 := Int.emod_nonneg x (show n ≠ 0 by omega)
  have h2 := Int.emod_lt_of_pos x hn
  split at h
  · rw [h, if_neg (by omega)]; omega
  · rw [h, if_pos (by omega)]; omega
theorem tmod_small {x n : Int} (hn : 0 < n) : -n < Int.tmod x n ∧ Int.tmod x n < n := by
  have h : Int.tmod x n = x % n - ((if 0 ≤ x ∨ n ∣ x then 0 else n.natAbs : Nat) : Int) := Int.tmod_eq_emod
  have h1 := Int.emod_nonneg x (show n ≠ 0 by omega)
  have h2 := Int.emod_lt_of_pos x hn
  by_cases hx : 0 ≤ x ∨ n ∣ x
  · rw [if_pos hx] at h; omega
  · rw [if_neg hx] at h
    have : x % n ≠ 0 := fun e => hx (.inr (Int.dvd_of_emod_eq_zero e))
    omega
theorem f47_eq {k : Nat} (hk : 0 < k) (x : Int) {n : Int} (h0 : 0 < n) (h1 : n < 4611686018427387904) (K : Int → Option R) : f47 k x n K = K (x % n) := by
  rw [f47_def]
  obtain ⟨k, rfl⟩ := succ_of hk
  have hn : (!(n == 0)) = true := by simp; omega
  obtain ⟨t1, t2⟩ := tmod_small (x := x) h0
  simp only [f47d, hn, cond_true, f47_1000003_def, f47_1000003d]
  rw [← tmod_below (x := x) h0, wi (n := Int.tmod x n + n) (by omega) (by omega)]
  by_cases h : Int.tmod x n < 0 <;> simp [h]

/-- What both sides are, when m are off the queue and t were taken. -/
def stI (Q : List (List Int)) (n0 w W : Int) (m t : Nat) (s : Int) (Rt : Bool) : Sta := ⟨⟨(n0 + t) % 256, W, false, Rt, false, t⟩, ⟨(n0 + m) % 256, s, Q.drop m, w, false⟩, Q.take t⟩
structure IOk (Q : List (List Int)) (n0 w W : Int) : Prop where
  n0 : 0 ≤ n0 ∧ n0 ≤ 255
  w : 1 ≤ w ∧ 2 * w + 2 ≤ W
  W : 4 ≤ W ∧ W ≤ 202 ∧ W % 2 = 0
  q : Q.length ≤ 60
  b : ∀ b ∈ Q, 1 ≤ b.length ∧ b.length ≤ 200
structure JOk (Q : List (List Int)) (w : Int) (m t : Nat) (s : Int) : Prop where
  mt : m ≤ t
  ts : (t : Int) ≤ m + s
  sw : s ≤ w
  sq : (m : Int) + s ≤ Q.length
theorem stI_ok {Q : List (List Int)} {n0 w W : Int} (I : IOk Q n0 w W) {m t : Nat} {s : Int} (J : JOk Q w m t s) (Rt : Bool) : SOk (stI Q n0 w W m t s Rt) := by
  obtain ⟨a1, a2, a3, a4, a5⟩ := I
  obtain ⟨b1, b2, b3, b4⟩ := J
  refine ⟨?_, ?_⟩
  · have h1 : inB ((n0 + t) % 256) 0 255 = true := inB_iff.2 (by omega)
    have h2 : inB W 2 254 = true := inB_iff.2 (by omega)
    have h3 : inB (t : Int) 0 1000000 = true := inB_iff.2 (by omega)
    have h4 : Int.tmod W 2 = 0 := by rw [tmod_nn (by omega)]; omega
    simp [stI, chkBoard, h1, h2, h3, h4]
  · refine ⟨by simp only [stI]; omega, by simp only [stI]; omega, by simp only [stI, List.length_drop]; omega, fun b hb => a5 b (List.mem_of_mem_drop hb), ?_⟩
    simp only [stI, List.length_drop]
    omega
theorem plainS_next {b : Bd} {num : Int} (hL : b.L = false) (hW : b.W = false) (h : num = b.n) : plainS b num = ({ b with n := (b.n + 1) % 256, Rt := false, t := b.t + 1 }, 1) := by
  unfold plainS
  rw [if_neg (by simp [hL]), if_pos h, if_neg (by simp [hW])]
theorem plainS_ahead {b : Bd} {num : Int} (hL : b.L = false) (h : ¬ num = b.n) (h2 : (num - b.n) % 256 < b.w / 2) : plainS b num = ({ b with Rt := true }, 2) := by
  unfold plainS
  rw [if_neg (by simp [hL]), if_neg h, if_pos h2]
theorem heardS_ack {g : Gd} {n : Int} {Rt : Bool} {d : Nat} (hd : (n - g.a) % 256 = d) (h : (d : Int) ≤ g.s) : heardS g n false Rt = { g with a := n, s := if Rt then 0 else g.s - d, q := g.q.drop d } := by
  unfold heardS
  rw [if_neg (by simp), if_pos (by omega), hd]
  rfl
/-- One sending. -/
theorem send_step {Q : List (List Int)} {n0 w W : Int} (I : IOk Q n0 w W) {m t : Nat} {s : Int} (J : JOk Q w m t s) (Rt : Bool) (e : Be) :
    ∃ t' s' Rt', sendS e (stI Q n0 w W m t s Rt) = (0, stI Q n0 w W m t' s' Rt') ∧ JOk Q w m t' s' ∧ (e.1 = true → e.2.1 = false → s = 0 → t = m → m < Q.length → t' = m + 1 ∧ Rt' = false) := by
  have H := stI_ok I J Rt
  obtain ⟨a1, a2, a3, a4, a5⟩ := I
  obtain ⟨b1, b2, b3, b4⟩ := J
  by_cases hs : e.1 = true
  · by_cases hlt : s < w ∧ (m : Int) + s < Q.length
    · obtain ⟨l1, l2⟩ := hlt
      have hs0 : 0 ≤ s := by omega
      obtain ⟨j, rfl⟩ : ∃ j : Nat, s = (j : Int) := ⟨s.toNat, by omega⟩
      have hmn : ((j : Int)) < mn (stI Q n0 w W m t j Rt).g := by
        simp only [mn, stI, List.length_drop]
        split <;> omega
      have hjq : m + j < Q.length := by omega
      have hget : (Q.drop m).getD j [] = Q[m + j] := by
        rw [List.getD_eq_getElem?_getD, List.getElem?_drop, List.getElem?_eq_getElem hjq]; rfl
      have hnx : nextS (stI Q n0 w W m t j Rt).g = (⟨(n0 + m) % 256, (j : Int) + 1, Q.drop m, w, false⟩, 1, (n0 + (m + j : Nat)) % 256, true, Q[m + j]) := by
        have hc : (stI Q n0 w W m t j Rt).g.st = false ∧ (stI Q n0 w W m t j Rt).g.s < mn (stI Q n0 w W m t j Rt).g := ⟨rfl, hmn⟩
        unfold nextS
        rw [if_pos hc]
        simp only [stI, Int.toNat_natCast, hget]
        have : ((n0 + (m : Int)) % 256 + (j : Int)) % 256 = (n0 + (m + j : Nat)) % 256 := by omega
        rw [this]
      obtain ⟨q1, q2⟩ := a5 _ (List.getElem_mem hjq)
      obtain ⟨ho, htk⟩ := takeF_next H.b (num := (n0 + (m + j : Nat)) % 256) (n := Q[m + j].length) (by omega) q1 q2
      by_cases hl : e.2.1 = false
      · by_cases hjt : m + j = t
        · -- it is the next one
          have hts : takeS (stI Q n0 w W m t j Rt).b 1 ((n0 + (m + j : Nat)) % 256) = (⟨(n0 + (t + 1 : Nat)) % 256, W, false, false, false, (t + 1 : Nat)⟩, 1) := by
            have : ((n0 + (t : Int)) % 256 + 1) % 256 = (n0 + (t + 1 : Nat)) % 256 := by omega
            simp only [takeS, if_true]
            rw [plainS_next rfl rfl (by simp only [stI, hjt])]
            simp only [stI, this]
            rfl
          rw [hts] at htk
          have h16 : ¬ ((t + 1 : Nat) : Int) > 1000000 := by omega
          rw [if_neg h16] at htk
          refine ⟨t + 1, (j : Int) + 1, false, ?_, ⟨by omega, by omega, by omega, by omega⟩, fun _ _ h1 h2 _ => ⟨by omega, rfl⟩⟩
          unfold sendS
          rw [if_pos hs, hnx]
          simp only [hl, and_self, if_true, htk, ne_eq, not_true_eq_false, if_false]
          simp only [stI, Prod.mk.injEq, true_and, Sta.mk.injEq]
          have ht : t < Q.length := by omega
          have : Q[m + j] = Q[t] := by simp only [hjt]
          rw [this, List.take_succ_eq_append_getElem ht]
        · -- it is ahead
          have hne : ¬ (n0 + (m + j : Nat)) % 256 = (n0 + (t : Int)) % 256 := by omega
          have hah : ((n0 + (m + j : Nat)) % 256 - (n0 + (t : Int)) % 256) % 256 < W / 2 := by omega
          have hts : takeS (stI Q n0 w W m t j Rt).b 1 ((n0 + (m + j : Nat)) % 256) = (⟨(n0 + (t : Int)) % 256, W, false, true, false, (t : Int)⟩, 2) := by
            simp only [takeS, if_true]
            rw [plainS_ahead rfl hne hah]
            rfl
          rw [hts] at htk
          have h16 : ¬ (t : Int) > 1000000 := by omega
          rw [if_neg h16] at htk
          refine ⟨t, (j : Int) + 1, true, ?_, ⟨b1, by omega, by omega, by omega⟩, fun _ _ h1 h2 _ => by omega⟩
          unfold sendS
          rw [if_pos hs, hnx]
          simp only [hl, and_self, if_true, htk, ne_eq, not_true_eq_false, if_false]
          rfl
      · refine ⟨t, (j : Int) + 1, Rt, ?_, ⟨b1, by omega, by omega, by omega⟩, fun _ h => absurd h hl⟩
        unfold sendS
        rw [if_pos hs, hnx, if_neg (by simp [hl])]
        rfl
    · refine ⟨t, s, Rt, ?_, ⟨b1, b2, b3, b4⟩, fun _ _ h1 h2 h3 => by exfalso; apply hlt; omega⟩
      have hnx : nextS (stI Q n0 w W m t s Rt).g = ((stI Q n0 w W m t s Rt).g, 0, 0, false, []) := by
        unfold nextS
        rw [if_neg]
        rintro ⟨_, h⟩
        simp only [mn, stI, List.length_drop] at h
        apply hlt
        split at h <;> omega
      unfold sendS
      rw [if_pos hs, hnx]
      simp
  · refine ⟨t, s, Rt, ?_, ⟨b1, b2, b3, b4⟩, fun h => absurd h hs⟩
    unfold sendS
    rw [if_neg hs]
theorem beat_step {Q : List (List Int)} {n0 w W : Int} (I : IOk Q n0 w W) {m t : Nat} {s : Int} (J : JOk Q w m t s) (Rt : Bool) (e : Be) (hr : e.2.2.2.2.1 = 0) :
    ∃ m' t' s' Rt', beatS e (stI Q n0 w W m t s Rt) = (0, stI Q n0 w W m' t' s' Rt') ∧ JOk Q w m' t' s' ∧
      (e.1 = true → e.2.1 = false → e.2.2.1 = true → e.2.2.2.1 = false → s = 0 → t = m → m < Q.length → m' = m + 1 ∧ t' = m + 1 ∧ s' = 0) := by
  obtain ⟨t1, s1, R1, h1, J1, F1⟩ := send_step I J Rt e
  have hroom : roomS e (stI Q n0 w W m t1 s1 R1).b = (stI Q n0 w W m t1 s1 R1).b := by unfold roomS; rw [if_neg (by omega)]
  have hb : beatS e (stI Q n0 w W m t s Rt) = (0, ⟨(stI Q n0 w W m t1 s1 R1).b, repS e (stI Q n0 w W m t1 s1 R1).b (stI Q n0 w W m t1 s1 R1).g, (stI Q n0 w W m t1 s1 R1).o⟩) := by
    unfold beatS
    rw [h1]
    simp only [ne_eq, not_true_eq_false, if_false, hroom]
  rw [hb]
  obtain ⟨a1, a2, a3, a4, a5⟩ := I
  obtain ⟨b1, b2, b3, b4⟩ := J1
  by_cases hrep : e.2.2.1 = true ∧ e.2.2.2.1 = false
  · have hd : ((n0 + (t1 : Int)) % 256 - (n0 + (m : Int)) % 256) % 256 = ((t1 - m : Nat) : Int) := by omega
    have hle : ((t1 - m : Nat) : Int) ≤ s1 := by omega
    refine ⟨t1, t1, if R1 then 0 else s1 - ((t1 - m : Nat) : Int), R1, ?_, ⟨Nat.le_refl _, by split <;> omega, by split <;> omega, by split <;> omega⟩, fun e1 e2 _ _ e3 e4 e5 => ?_⟩
    · unfold repS
      rw [if_pos hrep]
      have hh := heardS_ack (g := (stI Q n0 w W m t1 s1 R1).g) (n := (stI Q n0 w W m t1 s1 R1).b.n) (Rt := R1) hd hle
      have : m + (t1 - m) = t1 := by omega
      have hL : (stI Q n0 w W m t1 s1 R1).b.L = false := rfl
      have hR : (stI Q n0 w W m t1 s1 R1).b.Rt = R1 := rfl
      rw [hL, hR, hh]
      simp only [stI, List.drop_drop, this]
    · obtain ⟨f1, f2⟩ := F1 e1 e2 e3 e4 e5
      refine ⟨f1, f1, ?_⟩
      rw [f2]
      simp only [Bool.false_eq_true, if_false]
      have hs1 : s1 = 1 := by
        have hmn : (0 : Int) < mn (stI Q n0 w W m t s Rt).g := by
          simp only [mn, stI, List.length_drop]
          split <;> omega
        have hnx : (nextS (stI Q n0 w W m t s Rt).g).1.s = 1 ∧ (nextS (stI Q n0 w W m t s Rt).g).2.2.2.1 = true := by
          unfold nextS
          rw [if_pos ⟨rfl, by simp only [stI] at hmn ⊢; rw [e3]; simpa [e3] using hmn⟩]
          exact ⟨by simp [stI, e3], rfl⟩
        have : (sendS e (stI Q n0 w W m t s Rt)).2.g.s = 1 := by
          unfold sendS
          rw [if_pos e1]
          split
          · split <;> exact hnx.1
          · exact hnx.1
        rw [h1] at this
        exact this
      omega
  · refine ⟨m, t1, s1, R1, ?_, ⟨b1, b2, b3, b4⟩, fun _ _ e1 e2 => absurd ⟨e1, e2⟩ hrep⟩
    unfold repS
    rw [if_neg hrep]
theorem run_steps {Q : List (List Int)} {n0 w W : Int} (I : IOk Q n0 w W) : ∀ (l : List Be) {m t : Nat} {s : Int} (Rt : Bool), JOk Q w m t s → (∀ e ∈ l, e.2.2.2.2.1 = 0) →
    ∃ m' t' s' Rt', runS l (stI Q n0 w W m t s Rt) = (0, stI Q n0 w W m' t' s' Rt') ∧ JOk Q w m' t' s'
  | [], m, t, s, Rt, J, _ => ⟨m, t, s, Rt, rfl, J⟩
  | e :: l, m, t, s, Rt, J, hr => by
    obtain ⟨m1, t1, s1, R1, h1, J1, _⟩ := beat_step I J Rt e (hr e (by simp))
    obtain ⟨m2, t2, s2, R2, h2, J2⟩ := run_steps I l R1 J1 (fun e he => hr e (by simp [he]))
    refine ⟨m2, t2, s2, R2, ?_, J2⟩
    simp only [runS]
    rw [h1]
    simpa using h2
/-! the queue, and the beats -/
def GoodQ (Q : List (List Int)) : Prop := Q.length ≤ 60 ∧ ∀ b ∈ Q, 1 ≤ b.length ∧ b.length ≤ 200
theorem queue_loop (k : Nat) (x0 : List (List Int) → Option R) (z : List Be) (l : List (List Int)) (hl : l.length < 4611686018427387904) (c1 c2 : Int) (c3 c4 c5 : Bool) (c6 c7 c8 c9 : Int) (c10 : Bool) : ∀ (d f i : Nat) (acc : List (List Int)), i + d = l.length → d < f → acc.length ≤ i → GoodQ acc →
    ∃ Q, GoodQ Q ∧ f10_0d k x0 z l (l.length : Int) c1 c2 c3 c4 c5 c6 c7 c8 c9 c10 f (i : Int) acc = x0 Q
  | d, 0, i, _, _, h, _, _ => absurd h (Nat.not_lt_zero _)
  | 0, f + 1, i, acc, hi, _, ha, hg => by
    have h1 : decide ((i : Int) < (l.length : Int)) = false := by simp only [decide_eq_false_iff_not]; omega
    exact ⟨acc, hg, by simp only [f10_0d, f10_0b, h1, cond_false]⟩
  | d + 1, f + 1, i, acc, hi, hf, ha, hg => by
    have h1 : decide ((i : Int) < (l.length : Int)) = true := by simp only [decide_eq_true_eq]; omega
    have h0 : decide ((0 : Int) ≤ (i : Int)) = true := by simp
    have hw : IntKind.i64.wrap ((i : Int) + 1) = ((i + 1 : Nat) : Int) := by rw [wraps_i64 _ (by omega) (by omega)]; omega
    simp only [f10_0d, f10_0b, h1, h0, cond_true, Bool.and_self, Int.toNat_natCast, hw, f10_1000007_def, f10_1000007d]
    have ih := queue_loop k x0 z l hl c1 c2 c3 c4 c5 c6 c7 c8 c9 c10 d f (i + 1)
    by_cases h60 : (i : Int) < 60
    · by_cases hb0 : ((l.getD i []).length : Int) > 0
      · by_cases hb2 : ((l.getD i []).length : Int) ≤ 200
        · have hL : acc.length + ([l.getD i []] : List (List Int)).length ≤ LIM 24 := by rw [LIM24]; simp; omega
          simp only [h60, hb0, hb2, hL, decide_true, BEq.rfl, cond_true]
          refine ih (acc ++ [l.getD i []]) (by omega) (by omega) (by simp; omega) ⟨by simp; omega, fun c hc => ?_⟩
          rcases List.mem_append.1 hc with hc | hc
          · exact hg.2 c hc
          · rw [List.mem_singleton.1 hc]; omega
        · simp only [h60, hb0, hb2, decide_true, decide_false, BEq.rfl, cond_true, cond_false]
          exact ih acc (by omega) (by omega) (by omega) hg
      · simp only [h60, hb0, decide_true, decide_false, BEq.rfl, cond_true, cond_false, show (false == true) = false from rfl]
        exact ih acc (by omega) (by omega) (by omega) hg
    · simp only [h60, decide_false, cond_false, show (false == true) = false from rfl]
      exact ih acc (by omega) (by omega) (by omega) hg
def GoodL (L : List Be) : Prop := L.length ≤ 200 ∧ ∀ e ∈ L, e.2.2.2.2.1 = 0
theorem beats_loop (k : Nat) (x0 : List Be → Option R) (l : List Be) (hl : l.length < 4611686018427387904) (c1 c2 : Int) (c3 c4 c5 : Bool) (c6 c7 c8 c9 : Int) (c10 : Bool) (c11 : List (List Int)) : ∀ (d f i : Nat) (acc : List Be), i + d = l.length → d < f → acc.length ≤ i → GoodL acc →
    ∃ L, GoodL L ∧ f10_2d k x0 l (l.length : Int) c1 c2 c3 c4 c5 c6 c7 c8 c9 c10 c11 f (i : Int) acc = x0 L
  | d, 0, i, _, _, h, _, _ => absurd h (Nat.not_lt_zero _)
  | 0, f + 1, i, acc, hi, _, ha, hg => by
    have h1 : decide ((i : Int) < (l.length : Int)) = false := by simp only [decide_eq_false_iff_not]; omega
    exact ⟨acc, hg, by simp only [f10_2d, f10_2b, h1, cond_false]⟩
  | d + 1, f + 1, i, acc, hi, hf, ha, hg => by
    have h1 : decide ((i : Int) < (l.length : Int)) = true := by simp only [decide_eq_true_eq]; omega
    have h0 : decide ((0 : Int) ≤ (i : Int)) = true := by simp
    have hw : IntKind.i64.wrap ((i : Int) + 1) = ((i + 1 : Nat) : Int) := by rw [wraps_i64 _ (by omega) (by omega)]; omega
    simp only [f10_2d, f10_2b, h1, h0, cond_true, Bool.and_self, Int.toNat_natCast, hw, f10_1000014_def, f10_1000014d]
    generalize l.getD i _ = b
    have ih := beats_loop k x0 l hl c1 c2 c3 c4 c5 c6 c7 c8 c9 c10 c11 d f (i + 1)
    by_cases h60 : (i : Int) < 200
    · have hL : acc.length + ([(b.1, (b.2.1, (b.2.2.1, (b.2.2.2.1, ((0 : Int), ())))))] : List Be).length ≤ LIM 16 := by simp [LIM]; omega
      simp only [h60, hL, decide_true, cond_true]
      refine ih (acc ++ _) (by omega) (by omega) (by simp; omega) ⟨by simp; omega, fun c hc => ?_⟩
      rcases List.mem_append.1 hc with hc | hc
      · exact hg.2 c hc
      · rw [List.mem_singleton.1 hc]
    · simp only [h60, decide_false, cond_false]
      exact ih acc (by omega) (by omega) (by omega) hg
theorem setup (next window width : Int) : ∃ n0 w W : Int, n0 = next % 256 ∧ W = 4 + 2 * (window % 100) ∧ w = 1 + width % (W / 2 - 1) ∧ (0 ≤ n0 ∧ n0 ≤ 255) ∧ (1 ≤ w ∧ 2 * w + 2 ≤ W) ∧ (4 ≤ W ∧ W ≤ 202 ∧ W % 2 = 0) := by
  refine ⟨_, _, _, rfl, rfl, rfl, by omega, ?_, by omega⟩
  have h1 : 0 < (4 + 2 * (window % 100)) / 2 - 1 := by omega
  have h2 := Int.emod_nonneg width (show (4 + 2 * (window % 100)) / 2 - 1 ≠ 0 by omega)
  have h3 := Int.emod_lt_of_pos width h1
  omega
theorem runF_start {Q : List (List Int)} {n0 w W : Int} (I : IOk Q n0 w W) (L : List Be) (hL : GoodL L) :
    ∃ m t s Rt, runF ⟨n0, W, false, false, false, 0⟩ ⟨n0, 0, Q, w, false⟩ L = (0, stI Q n0 w W m t s Rt) ∧ JOk Q w m t s := by
  have e0 : (⟨⟨n0, W, false, false, false, 0⟩, ⟨n0, 0, Q, w, false⟩, []⟩ : Sta) = stI Q n0 w W 0 0 0 false := by
    have := I.n0
    simp only [stI, List.drop_zero, List.take_zero]
    have : (n0 + ((0 : Nat) : Int)) % 256 = n0 := by omega
    rw [this]
    rfl
  have J : JOk Q w 0 0 0 := ⟨by omega, by omega, by have := I.w; omega, by omega⟩
  have H := stI_ok I J false
  obtain ⟨m, t, s, Rt, h, J'⟩ := run_steps I L false J hL.2
  refine ⟨m, t, s, Rt, ?_, J'⟩
  rw [← e0] at h H
  have hg0 : chkGround ⟨n0, 0, Q, w, false⟩ = 0 := by
    have h1 := inB_iff.2 I.n0
    have h2 : inB w 1 127 = true := inB_iff.2 (by have := I.w; have := I.W; omega)
    have hfb : ∀ l : List (List Int), (∀ b ∈ l, 1 ≤ b.length ∧ b.length ≤ 200) → firstBad l = 0 := by
      intro l
      induction l with
      | nil => intro _; rfl
      | cons b l ih =>
        intro h
        have hb := h b (by simp)
        have : chkBody b.length = 0 := by unfold chkBody; rw [if_neg (by omega), if_neg (by omega)]
        simp only [firstBad, this, if_true]
        exact ih fun c hc => h c (by simp [hc])
    have h5 : ¬ 500 < Q.length := by have := I.q; omega
    have h6 : inB 0 0 (mn ⟨n0, 0, Q, w, false⟩) = true := inB_iff.2 (by unfold mn; have := I.w; simp only; split <;> omega)
    simp [chkGround, h1, h2, hfb Q I.b, h5, h6]
  unfold runF
  rw [if_neg (by simpa using H.b), if_neg (by simpa using hg0), if_neg (by have := hL.1; omega)]
  have hany : L.any badRoom = false := by
    rw [Bool.eq_false_iff]
    intro h'
    obtain ⟨e, he, hb⟩ := List.any_eq_true.1 h'
    simp [badRoom, hL.2 e he, inB] at hb
  rw [hany, h]
  simp
theorem f10_eq {k : Nat} (next window : Int) (bodies : List (List Int)) (width : Int) (l : List Be) (hk : bodies.length + l.length + 6000 < k) (hl : l.length < 4611686018427387904) (hb : bodies.length < 4611686018427387904) (K : Bool → Option R) :
    f10 k next window bodies width l K = K true := by
  rw [f10_def]
  obtain ⟨k, rfl⟩ := succ_of (show 0 < k by omega)
  obtain ⟨n0, w, W, e1, e2, e3, g1, g2, g3⟩ := setup next window width
  simp only [f10d, f47_eq (show 0 < k by omega) next (show (0 : Int) < 256 by omega) (by omega), f47_eq (show 0 < k by omega) window (show (0 : Int) < 100 by omega) (by omega)]
  have w1 : IntKind.i64.wrap (2 * (window % 100)) = 2 * (window % 100) := wi (by omega) (by omega)
  have w2 : IntKind.i64.wrap (4 + 2 * (window % 100)) = W := by rw [wi (by omega) (by omega), e2]
  rw [w1, w2, ← e1, tdiv_nn (by omega), wi (n := W / 2) (by omega) (by omega), wi (n := W / 2 - 1) (by omega) (by omega), f47_eq (by omega) width (by omega) (by omega)]
  rw [show IntKind.i64.wrap (1 + width % (W / 2 - 1)) = w by rw [← e3]; exact wi (by omega) (by omega)]
  rw [f10_0_def]
  obtain ⟨Q, hQ, eQ⟩ := queue_loop k (fun y0_0_11 => (f10_2 k (fun y2_2_11 => (f44 k n0 W false false false (0 : Int) n0 (0 : Int) y0_0_11 w false y2_2_11 (fun r36867_0 r36867_1 r36867_2 r36867_3 r36867_4 r36867_5 r36867_6 r36867_7 r36867_8 r36867_9 r36867_10 r36867_11 r36867_12 => (bif ((r36867_10 != (0 : Int)) == false) then (bif (decide ((r36867_12.length : Int) > (y0_0_11.length : Int)) == false) then (bif (decide ((r36867_11.length : Int) > (y0_0_11.length : Int)) == false) then (bif (decide ((0 : Int) ≤ (r36867_12.length : Int)) && decide ((r36867_12.length : Int) ≤ (y0_0_11.length : Int))) then (f46 k r36867_12 ((y0_0_11.drop 0).take (Int.toNat (r36867_12.length : Int))) (fun r38938_0 => (bif (!r38938_0) then (K false) else (bif (decide (IntKind.i64.wrap ((y0_0_11.length : Int) - (r36867_11.length : Int)) ≤ (r36867_12.length : Int)) == true) then (bif ((!r36867_9) == true) then (f21 k (fun r43024_0 => (K r43024_0))) else (K false)) else (K false))))) else none) else (K false)) else (K false)) else (K false))))) l (l.length : Int) n0 W false false false (0 : Int) n0 (0 : Int) w false y0_0_11 k (0 : Int) ([] : List Be))) l bodies hb n0 W false false false 0 n0 0 w false bodies.length k 0 [] (by omega) (by omega) (by simp) ⟨by simp, fun b h => by simp at h⟩
  refine eQ.trans ?_
  rw [f10_2_def]
  obtain ⟨L, hL, eL⟩ := beats_loop k (fun y2_2_11 => (f44 k n0 W false false false (0 : Int) n0 (0 : Int) Q w false y2_2_11 (fun r36867_0 r36867_1 r36867_2 r36867_3 r36867_4 r36867_5 r36867_6 r36867_7 r36867_8 r36867_9 r36867_10 r36867_11 r36867_12 => (bif ((r36867_10 != (0 : Int)) == false) then (bif (decide ((r36867_12.length : Int) > (Q.length : Int)) == false) then (bif (decide ((r36867_11.length : Int) > (Q.length : Int)) == false) then (bif (decide ((0 : Int) ≤ (r36867_12.length : Int)) && decide ((r36867_12.length : Int) ≤ (Q.length : Int))) then (f46 k r36867_12 ((Q.drop 0).take (Int.toNat (r36867_12.length : Int))) (fun r38938_0 => (bif (!r38938_0) then (K false) else (bif (decide (IntKind.i64.wrap ((Q.length : Int) - (r36867_11.length : Int)) ≤ (r36867_12.length : Int)) == true) then (bif ((!r36867_9) == true) then (f21 k (fun r43024_0 => (K r43024_0))) else (K false)) else (K false))))) else none) else (K false)) else (K false)) else (K false))))) l hl n0 W false false false 0 n0 0 w false Q l.length k 0 [] (by omega) (by omega) (by simp) ⟨by simp, fun b h => by simp at h⟩
  refine eL.trans ?_
  have hQ1 := hQ.1
  have hL1 := hL.1
  have I : IOk Q n0 w W := ⟨g1, g2, g3, hQ.1, hQ.2⟩
  obtain ⟨m, t, s, Rt, hrun, J⟩ := runF_start I L hL
  have h44 := f44_eq (R := R) (k := k) ⟨n0, W, false, false, false, 0⟩ ⟨n0, 0, Q, w, false⟩ L (by simp only; omega) (by omega) (by simp only; omega) (fun b h => by have := (hQ.2 b h).2; omega)
  simp only at h44
  rw [h44, hrun]
  have jm := J.mt
  have jt := J.ts
  have js := J.sq
  have htq : t ≤ Q.length := by omega
  have lt : (Q.take t).length = t := by rw [List.length_take]; omega
  have ld : (Q.drop m).length = Q.length - m := List.length_drop
  have c1 : decide ((t : Int) > (Q.length : Int)) = false := by simp only [decide_eq_false_iff_not]; omega
  have c2 : decide (((Q.length - m : Nat) : Int) > (Q.length : Int)) = false := by simp only [decide_eq_false_iff_not]; omega
  have c3 : decide ((0 : Int) ≤ (t : Int)) = true := by simp
  have c4 : decide ((t : Int) ≤ (Q.length : Int)) = true := by simp only [decide_eq_true_eq]; omega
  have c5 : decide (IntKind.i64.wrap ((Q.length : Int) - ((Q.length - m : Nat) : Int)) ≤ (t : Int)) = true := by
    rw [wi (by omega) (by omega)]; simp only [decide_eq_true_eq]; omega
  simp only [ap44, stI, lt, ld, c1, c2, c3, c4, c5, bne_dec, decide_true, Bool.not_true, BEq.rfl, cond_true, Bool.and_self, Int.toNat_natCast, List.drop_zero, Bool.not_false]
  rw [f46_eq _ (by rw [lt]; omega) (by rw [lt]; omega) (fun b h => by have := (hQ.2 b (List.mem_of_mem_take h)).2; exact ⟨by omega, by omega⟩)]
  simp only [decide_true, Bool.not_true, cond_false, cond_true, BEq.rfl, f21_eq (show 6 < k by omega)]
end Go.Proofs.Ytadkplikobhckaa.PM

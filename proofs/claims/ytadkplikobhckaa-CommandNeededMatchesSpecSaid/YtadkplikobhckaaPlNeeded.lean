/- Plain laws of commands: how many beats are needed; with beats enough all is taken. -/
import Derived.Test.YtadkplikobhckaaPlOrder
set_option linter.unusedSimpArgs false
set_option linter.unusedVariables false
namespace Go.Proofs.Ytadkplikobhckaa.PM
open Go Go.Proofs.Ytadkplikobhckaa.Bt
variable {R : Type}

def e0 : Be := (true, (false, (true, (false, ((0 : Int), ())))))
def needL : Nat → Int → Sta → Int × Bool × Int
  | 0, n, x => if x.g.q.length = 0 then (n, true, 0) else (0, false, 0)
  | d + 1, n, x => if x.g.q.length = 0 then (n, true, 0) else if (beatS e0 x).1 ≠ 0 then (0, false, (beatS e0 x).1) else needL d (n + 1) (beatS e0 x).2
def ap3 (K : Int → Bool → Int → Option R) (r : Int × Bool × Int) : Option R := K r.1 r.2.1 r.2.2
theorem len0 (l : List (List Int)) : ((l.length : Int) == 0) = decide (l.length = 0) := by
  by_cases h : l.length = 0
  · simp [h]
  · have : ((l.length : Int) == 0) = false := by simp; intro h'; exact h (by simp [h'])
    simp [this, h]
theorem need_loop (k : Nat) (hk : 40 < k) (K : Int → Bool → Int → Option R) (most : Int) (hm : most ≤ 2000) : ∀ (d f : Nat) (n : Int) {x : Sta}, 0 ≤ n → n + d = most → d < f → SOk x → (x.o.length : Int) ≤ n →
    f42_0d k K most f n x.b.n x.b.w x.b.L x.b.Rt x.b.W x.b.t x.g.a x.g.s x.g.q x.g.w x.g.st x.o = ap3 K (needL d n x)
  | d, 0, n, _, _, _, h, _, _ => absurd h (Nat.not_lt_zero _)
  | 0, f + 1, n, x, h0, hn, _, H, ho => by
    have e : (n == most) = true := by simp; omega
    simp only [f42_0d, f42_0b, len0, needL, e, cond_true]
    by_cases hq : x.g.q.length = 0 <;> simp [hq, ap3]
  | d + 1, f + 1, n, x, h0, hn, hf, H, ho => by
    have e : (n == most) = false := by simp; omega
    simp only [f42_0d, f42_0b, len0, needL, e, cond_false]
    by_cases hq : x.g.q.length = 0
    · simp [hq, ap3]
    · simp only [hq, decide_false, cond_false, if_false]
      have h79 := f79_eq (R := R) (k := k) (by omega) e0 H (by omega)
      simp only [e0] at h79
      rw [h79]
      simp only [apB, bne_dec]
      have ee : ((true, (false, (true, (false, ((0 : Int), ()))))) : Be) = e0 := rfl
      rw [ee]
      by_cases hb : (beatS e0 x).1 = 0
      · obtain ⟨q, ql⟩ := beatS_ok H hb
        simp only [hb, decide_true, Bool.not_true, cond_false, ne_eq, not_true_eq_false, if_false]
        rw [wi (n := n + 1) (by omega) (by omega)]
        exact need_loop k hk K most hm d f (n + 1) (by omega) (by omega) (by omega) q (by omega)
      · simp [hb, ap3]
theorem sendS_same (e : Be) (b : Bd) (g : Gd) (o o' : List (List Int)) : (sendS e ⟨b, g, o⟩).1 = (sendS e ⟨b, g, o'⟩).1 ∧ (sendS e ⟨b, g, o⟩).2.b = (sendS e ⟨b, g, o'⟩).2.b ∧ (sendS e ⟨b, g, o⟩).2.g = (sendS e ⟨b, g, o'⟩).2.g := by
  unfold sendS
  split
  · split
    · simp only
      split <;> simp
    · simp
  · simp
theorem beatS_same (e : Be) (b : Bd) (g : Gd) (o o' : List (List Int)) : (beatS e ⟨b, g, o⟩).1 = (beatS e ⟨b, g, o'⟩).1 ∧ (beatS e ⟨b, g, o⟩).2.b = (beatS e ⟨b, g, o'⟩).2.b ∧ (beatS e ⟨b, g, o⟩).2.g = (beatS e ⟨b, g, o'⟩).2.g := by
  obtain ⟨h1, h2, h3⟩ := sendS_same e b g o o'
  unfold beatS
  by_cases h : (sendS e ⟨b, g, o'⟩).1 = 0
  · rw [if_neg (by rw [h1]; simpa using h), if_neg (by simpa using h)]
    simp only [h2, h3, and_self]
  · rw [if_pos (by rw [h1]; exact h), if_pos h]
    exact ⟨h1, h2, h3⟩
theorem need_ref (k : Nat) (hk : 3000 < k) (K : Int → Bool → Int → Option R) (most : Int) (hm : most ≤ 2000) : ∀ (d f : Nat) (n : Int) {x : Sta}, 0 ≤ n → n + d = most → d < f → SOk x →
    f43_0d k K most f n x.b.n x.b.w x.b.L x.b.Rt x.b.W x.b.t x.g.a x.g.s x.g.q x.g.w x.g.st = ap3 K (needL d n x)
  | d, 0, n, _, _, _, h, _ => absurd h (Nat.not_lt_zero _)
  | 0, f + 1, n, x, h0, hn, _, H => by
    have e : (n == most) = true := by simp; omega
    simp only [f43_0d, f43_0b, len0, needL, e, cond_true]
    by_cases hq : x.g.q.length = 0 <;> simp [hq, ap3]
  | d + 1, f + 1, n, x, h0, hn, hf, H => by
    have e : (n == most) = false := by simp; omega
    simp only [f43_0d, f43_0b, len0, needL, e, cond_false]
    by_cases hq : x.g.q.length = 0
    · simp [hq, ap3]
    · simp only [hq, decide_false, cond_false, if_false]
      have hq' := H.g.q
      have ee : ((true, (false, (true, (false, ((0 : Int), ()))))) : Be) = e0 := rfl
      rw [ee, f45_eq x.b x.g [e0] (by simp; omega) (by simp) (by omega)]
      have hrun : runF x.b x.g [e0] = if (beatS e0 ⟨x.b, x.g, []⟩).1 ≠ 0 then ((beatS e0 ⟨x.b, x.g, []⟩).1, z0) else beatS e0 ⟨x.b, x.g, []⟩ := by
        have hg0 : chkGround x.g = 0 := by
          have G := H.g
          have h1 := inB_iff.2 G.a
          have h2 := inB_iff.2 G.w
          have h5 : ¬ 500 < x.g.q.length := by omega
          have hfb : ∀ l : List (List Int), (∀ b ∈ l, 1 ≤ b.length ∧ b.length ≤ 200) → firstBad l = 0 := by
            intro l
            induction l with
            | nil => intro _; rfl
            | cons b l ih =>
              intro h
              have hb := h b (by simp)
              have : chkBody b.length = 0 := by unfold chkBody; rw [if_neg (by omega), if_neg (by omega)]
              simp only [firstBad, this, if_true]
              exact ih fun c hc => h c (by simp [hc])
          have h6 : inB x.g.s 0 (mn x.g) = true := inB_iff.2 (by unfold mn; have := G.s; split <;> omega)
          simp [chkGround, h1, h2, hfb _ G.b, h5, h6]
        unfold runF
        rw [if_neg (by simpa using H.b), if_neg (by simpa using hg0), if_neg (by simp)]
        have : ([e0] : List Be).any badRoom = false := by simp [e0, badRoom, inB]
        rw [this]
        simp only [Bool.false_eq_true, if_false, runS]
        by_cases hb : (beatS e0 ⟨x.b, x.g, []⟩).1 = 0
        · simp only [hb, ne_eq, not_true_eq_false, if_false]
          rw [← hb]
        · simp only [ne_eq, hb, not_false_eq_true, if_true]
      obtain ⟨s1, s2, s3⟩ := beatS_same e0 x.b x.g [] x.o
      have ex : (⟨x.b, x.g, x.o⟩ : Sta) = x := rfl
      rw [ex] at s1 s2 s3
      rw [hrun, s1]
      simp only [bne_dec]
      by_cases hb : (beatS e0 x).1 = 0
      · obtain ⟨q, ql⟩ := beatS_ok H hb
        rw [if_neg (by simpa using hb), if_neg (by simpa using hb)]
        simp only [ap45, s1, s2, s3, hb, decide_true, Bool.not_true, cond_false]
        rw [wi (n := n + 1) (by omega) (by omega)]
        exact need_ref k hk K most hm d f (n + 1) (by omega) (by omega) (by omega) q
      · rw [if_pos hb, if_pos hb]
        simp [ap45, hb, ap3]
def needF (b : Bd) (g : Gd) (most : Int) : Int × Bool × Int :=
  if chkBoard b ≠ 0 then (0, false, chkBoard b) else if chkGround g ≠ 0 then (0, false, chkGround g) else if inB most 0 2000 = false then (0, false, 1) else needL most.toNat 0 ⟨b, g, []⟩
theorem f42_eq {k : Nat} (b : Bd) (g : Gd) (most : Int) (hk : g.q.length + 9000 < k) (hq : g.q.length ≤ 5864062014805) (K : Int → Bool → Int → Option R) :
    f42 k b.n b.w b.L b.Rt b.W b.t g.a g.s g.q g.w g.st most K = ap3 K (needF b g most) := by
  rw [f42_def]
  obtain ⟨k, rfl⟩ := succ_of (show 0 < k by omega)
  simp only [f42d, f29_eq (show 1 < k by omega), f35_eq g (show _ < k by omega) (by omega), f74_eq (show 1 < k by omega), bne_dec, needF]
  rw [f65_eq (by simp; omega) (by simp)]
  simp only [firstF]
  by_cases h1 : chkBoard b = 0
  · by_cases h2 : chkGround g = 0
    · cases h3 : inB most 0 2000
      · simp [h1, h2, ap3]
      · have := inB_iff.1 h3
        have G := chkGround_ok h2
        simp only [h1, h2, if_true, decide_true, Bool.not_true, cond_false, ne_eq, not_true_eq_false, if_false, Bool.true_eq_false]
        rw [f71_eq g (by omega) hq (fun b h => by have := (G.b b h).2; omega), f42_0_def]
        exact need_loop k (by omega) K most (by omega) most.toNat k 0 (x := ⟨b, g, []⟩) (by omega) (by omega) (by omega) ⟨h1, G⟩ (by simp)
    · simp [h1, h2, ap3]
  · simp [h1, ap3]
theorem f43_eq {k : Nat} (b : Bd) (g : Gd) (most : Int) (hk : g.q.length + 9000 < k) (hq : g.q.length ≤ 5864062014805) (K : Int → Bool → Int → Option R) :
    f43 k b.n b.w b.L b.Rt b.W b.t g.a g.s g.q g.w g.st most K = ap3 K (needF b g most) := by
  rw [f43_def]
  obtain ⟨k, rfl⟩ := succ_of (show 0 < k by omega)
  simp only [f43d, f30_eq (show 1 < k by omega), f36_eq g (show _ < k by omega) (by omega), f63_eq (show 0 < k by omega), bne_dec, needF]
  by_cases h1 : chkBoard b = 0
  · by_cases h2 : chkGround g = 0
    · cases h3 : inB most 0 2000
      · simp [h1, h2, ap3]
      · have := inB_iff.1 h3
        simp only [h1, h2, decide_true, Bool.not_true, cond_false, ne_eq, not_true_eq_false, if_false, Bool.true_eq_false]
        rw [f43_0_def]
        exact need_ref k (by omega) K most (by omega) most.toNat k 0 (x := ⟨b, g, []⟩) (by omega) (by omega) (by omega) ⟨h1, chkGround_ok h2⟩
    · simp [h1, h2, ap3]
  · simp [h1, ap3]
theorem f8_eq {k : Nat} (b : Bd) (g : Gd) (most : Int) (hk : g.q.length + 9100 < k) (hq : g.q.length ≤ 5864062014805) (K : Bool → Option R) :
    f8 k b.n b.w b.L b.Rt b.W b.t g.a g.s g.q g.w g.st most K = K true := by
  rw [f8_def]
  obtain ⟨k, rfl⟩ := succ_of (show 0 < k by omega)
  simp only [f8d, f42_eq b g most (show _ < k by omega) hq, f43_eq b g most (show _ < k by omega) hq, ap3, BEq.rfl, cond_true, f21_eq (show 6 < k by omega)]
/-! all is taken -/
theorem need_all {Q : List (List Int)} {n0 w W : Int} (I : IOk Q n0 w W) : ∀ (r d m : Nat) (n : Int) (Rt : Bool), Q.length = m + r → r ≤ d → needL d n (stI Q n0 w W m m 0 Rt) = (n + r, true, 0)
  | 0, d, m, n, Rt, h, _ => by
    have : (stI Q n0 w W m m 0 Rt).g.q.length = 0 := by simp only [stI, List.length_drop]; omega
    cases d <;> simp [needL, this]
  | r + 1, 0, m, n, Rt, _, h => by omega
  | r + 1, d + 1, m, n, Rt, h, hd => by
    have : ¬ (stI Q n0 w W m m 0 Rt).g.q.length = 0 := by simp only [stI, List.length_drop]; omega
    obtain ⟨m', t', s', R', e, J, F⟩ := beat_step I (m := m) (t := m) (s := 0) ⟨Nat.le_refl _, by omega, by have := I.w; omega, by omega⟩ Rt e0 rfl
    obtain ⟨f1, f2, f3⟩ := F rfl rfl rfl rfl rfl rfl (by omega)
    subst f1 f2 f3
    simp only [needL, this, if_false]
    rw [e]
    simp only [ne_eq, not_true_eq_false, if_false]
    rw [need_all I r d (m + 1) (n + 1) R' (by omega) (by omega)]
    simp only [Prod.mk.injEq, and_true]
    omega
theorem run_all {Q : List (List Int)} {n0 w W : Int} (I : IOk Q n0 w W) : ∀ (r m : Nat) (Rt : Bool), Q.length = m + r → ∃ R', runS (List.replicate r e0) (stI Q n0 w W m m 0 Rt) = (0, stI Q n0 w W (m + r) (m + r) 0 R')
  | 0, m, Rt, h => ⟨Rt, rfl⟩
  | r + 1, m, Rt, h => by
    obtain ⟨m', t', s', R', e, J, F⟩ := beat_step I (m := m) (t := m) (s := 0) ⟨Nat.le_refl _, by omega, by have := I.w; omega, by omega⟩ Rt e0 rfl
    obtain ⟨f1, f2, f3⟩ := F rfl rfl rfl rfl rfl rfl (by omega)
    subst f1 f2 f3
    obtain ⟨R2, h2⟩ := run_all I r (m + 1) R' (by omega)
    refine ⟨R2, ?_⟩
    rw [List.replicate_succ]
    simp only [runS]
    rw [e]
    simp only [ne_eq, not_true_eq_false, if_false]
    rw [h2]
    have : m + 1 + r = m + (r + 1) := by omega
    rw [this]
theorem queue_loop2 (k : Nat) (x0 : List (List Int) → Option R) (l : List (List Int)) (hl : l.length < 4611686018427387904) (c1 c2 : Int) (c3 c4 c5 : Bool) (c6 c7 c8 c9 : Int) (c10 : Bool) : ∀ (d f i : Nat) (acc : List (List Int)), i + d = l.length → d < f → acc.length ≤ i → GoodQ acc →
    ∃ Q, GoodQ Q ∧ f11_0d k x0 l (l.length : Int) c1 c2 c3 c4 c5 c6 c7 c8 c9 c10 f (i : Int) acc = x0 Q
  | d, 0, i, _, _, h, _, _ => absurd h (Nat.not_lt_zero _)
  | 0, f + 1, i, acc, hi, _, ha, hg => by
    have h1 : decide ((i : Int) < (l.length : Int)) = false := by simp only [decide_eq_false_iff_not]; omega
    exact ⟨acc, hg, by simp only [f11_0d, f11_0b, h1, cond_false]⟩
  | d + 1, f + 1, i, acc, hi, hf, ha, hg => by
    have h1 : decide ((i : Int) < (l.length : Int)) = true := by simp only [decide_eq_true_eq]; omega
    have h0 : decide ((0 : Int) ≤ (i : Int)) = true := by simp
    have hw : IntKind.i64.wrap ((i : Int) + 1) = ((i + 1 : Nat) : Int) := by rw [wraps_i64 _ (by omega) (by omega)]; omega
    simp only [f11_0d, f11_0b, h1, h0, cond_true, Bool.and_self, Int.toNat_natCast, hw, f11_1000007_def, f11_1000007d]
    have ih := queue_loop2 k x0 l hl c1 c2 c3 c4 c5 c6 c7 c8 c9 c10 d f (i + 1)
    by_cases h60 : (i : Int) < 60
    · by_cases hb0 : ((l.getD i []).length : Int) > 0
      · by_cases hb2 : ((l.getD i []).length : Int) ≤ 200
        · have hL : acc.length + ([l.getD i []] : List (List Int)).length ≤ LIM 24 := by rw [LIM24]; simp; omega
          simp only [h60, hb0, hb2, hL, decide_true, BEq.rfl, cond_true]
          refine ih (acc ++ [l.getD i []]) (by omega) (by omega) (by simp; omega) ⟨by simp; omega, fun c hc => ?_⟩
          rcases List.mem_append.1 hc with hc | hc
          · exact hg.2 c hc
          · rw [List.mem_singleton.1 hc]; omega
        · simp only [h60, hb0, hb2, decide_true, decide_false, BEq.rfl, cond_true, cond_false]
          exact ih acc (by omega) (by omega) (by omega) hg
      · simp only [h60, hb0, decide_true, decide_false, BEq.rfl, cond_true, cond_false, show (false == true) = false from rfl]
        exact ih acc (by omega) (by omega) (by omega) hg
    · simp only [h60, decide_false, cond_false, show (false == true) = false from rfl]
      exact ih acc (by omega) (by omega) (by omega) hg
theorem fill_loop (k : Nat) (x2 : List Be → Option R) (n : Nat) (hn : n ≤ 100000) (c1 c2 : Int) (c3 c4 c5 : Bool) (c6 c7 c8 c9 : Int) (c10 : Bool) (c11 : List (List Int)) : ∀ (d f i : Nat) (L : List Be), i + d = n → d < f → L.length = n → (∀ j, j < i → L[j]? = some e0) →
    f11_2d k x2 (n : Int) c1 c2 c3 c4 c5 c6 c7 c8 c9 c10 c11 f (i : Int) L = x2 (List.replicate n e0)
  | d, 0, i, _, _, h, _, _ => absurd h (Nat.not_lt_zero _)
  | 0, f + 1, i, L, hi, _, hL, hj => by
    have h1 : decide ((i : Int) < (n : Int)) = false := by simp only [decide_eq_false_iff_not]; omega
    simp only [f11_2d, f11_2b, h1, cond_false]
    congr 1
    refine List.ext_getElem? fun j => ?_
    rw [List.getElem?_replicate]
    split
    · exact hj j (by omega)
    · exact List.getElem?_eq_none (by omega)
  | d + 1, f + 1, i, L, hi, hf, hL, hj => by
    have h1 : decide ((i : Int) < (n : Int)) = true := by simp only [decide_eq_true_eq]; omega
    have h2 : decide ((i : Int) < (L.length : Int)) = true := by simp only [decide_eq_true_eq]; omega
    have h0 : decide ((0 : Int) ≤ (i : Int)) = true := by simp
    have hw : IntKind.i64.wrap ((i : Int) + 1) = ((i + 1 : Nat) : Int) := by rw [wraps_i64 _ (by omega) (by omega)]; omega
    simp only [f11_2d, f11_2b, h1, h2, h0, cond_true, Bool.and_self, Int.toNat_natCast, hw]
    refine fill_loop k x2 n hn c1 c2 c3 c4 c5 c6 c7 c8 c9 c10 c11 d f (i + 1) _ (by omega) (by omega) (by simp [hL]) fun j hji => ?_
    rw [List.getElem?_set]
    by_cases e : i = j
    · subst e
      rw [if_pos rfl, if_pos (by omega)]
      rfl
    · rw [if_neg e]
      exact hj j (by omega)
theorem f11_eq {k : Nat} (next window : Int) (bodies : List (List Int)) (width : Int) (hk : bodies.length + 10000 < k) (hb : bodies.length < 4611686018427387904) (K : Bool → Option R) :
    f11 k next window bodies width K = K true := by
  rw [f11_def]
  obtain ⟨k, rfl⟩ := succ_of (show 0 < k by omega)
  obtain ⟨n0, w, W, e1, e2, e3, g1, g2, g3⟩ := setup next window width
  simp only [f11d, f47_eq (show 0 < k by omega) next (show (0 : Int) < 256 by omega) (by omega), f47_eq (show 0 < k by omega) window (show (0 : Int) < 100 by omega) (by omega)]
  have w1 : IntKind.i64.wrap (2 * (window % 100)) = 2 * (window % 100) := wi (by omega) (by omega)
  have w2 : IntKind.i64.wrap (4 + 2 * (window % 100)) = W := by rw [wi (by omega) (by omega), e2]
  rw [w1, w2, ← e1, tdiv_nn (by omega), wi (n := W / 2) (by omega) (by omega), wi (n := W / 2 - 1) (by omega) (by omega), f47_eq (by omega) width (by omega) (by omega)]
  rw [show IntKind.i64.wrap (1 + width % (W / 2 - 1)) = w by rw [← e3]; exact wi (by omega) (by omega)]
  rw [f11_0_def]
  obtain ⟨Q, hQ, eQ⟩ := queue_loop2 k _ bodies hb n0 W false false false 0 n0 0 w false bodies.length k 0 [] (by omega) (by omega) (by simp) ⟨by simp, fun b h => by simp at h⟩
  refine Eq.trans (eQ) ?_
  have hQ1 := hQ.1
  have I : IOk Q n0 w W := ⟨g1, g2, g3, hQ.1, hQ.2⟩
  have st0 : (⟨⟨n0, W, false, false, false, 0⟩, ⟨n0, 0, Q, w, false⟩, []⟩ : Sta) = stI Q n0 w W 0 0 0 false := by
    simp only [stI, List.drop_zero, List.take_zero]
    have : (n0 + ((0 : Nat) : Int)) % 256 = n0 := by omega
    rw [this]
    rfl
  have J : JOk Q w 0 0 0 := ⟨by omega, by omega, by omega, by omega⟩
  have H := stI_ok I J false
  rw [← st0] at H
  -- Needed
  have h42 := f42_eq (R := R) (k := k) ⟨n0, W, false, false, false, 0⟩ ⟨n0, 0, Q, w, false⟩ 2000 (by simp only; omega) (by simp only; omega)
  simp only at h42
  rw [h42]
  obtain ⟨mm, tt, ss, RR, hrun0, _⟩ := runF_start I [] ⟨by simp, fun e h => by simp at h⟩
  have hboth : chkBoard ⟨n0, W, false, false, false, 0⟩ = 0 ∧ chkGround ⟨n0, 0, Q, w, false⟩ = 0 := by
    refine ⟨H.b, ?_⟩
    by_cases h : chkGround ⟨n0, 0, Q, w, false⟩ = 0
    · exact h
    · have hbb : chkBoard ⟨n0, W, false, false, false, 0⟩ = 0 := H.b
      unfold runF at hrun0
      rw [if_neg (by simpa using hbb), if_pos h] at hrun0
      exact absurd (congrArg Prod.fst hrun0) h
  have hneed : needF ⟨n0, W, false, false, false, 0⟩ ⟨n0, 0, Q, w, false⟩ 2000 = ((Q.length : Int), true, 0) := by
    unfold needF
    rw [if_neg (by simpa using hboth.1), if_neg (by simpa using hboth.2), if_neg (by simp [inB]), st0, need_all I Q.length _ 0 0 false (by omega) (by simp; omega)]
    simp
  rw [hneed]
  have cL : decide ((Q.length : Int) ≤ (LIM 16 : Int)) = true := by simp only [decide_eq_true_eq]; simp [LIM]; omega
  have c0 : decide ((0 : Int) ≤ (Q.length : Int)) = true := by simp
  simp only [ap3, bne_dec, decide_true, Bool.not_true, BEq.rfl, cond_true, cond_false, c0, cL, Bool.and_self, Int.le_refl, Int.toNat_natCast, List.length_replicate, f11_2_def]
  rw [show (0 : Int) = ((0 : Nat) : Int) from rfl, fill_loop k _ Q.length (by omega) _ _ _ _ _ _ _ _ _ _ _ Q.length k 0 _ (by omega) (by omega) (by simp) (fun j hj => by omega)]
  simp only [Int.natCast_zero]
  have h44 := f44_eq (R := R) (k := k) ⟨n0, W, false, false, false, 0⟩ ⟨n0, 0, Q, w, false⟩ (List.replicate Q.length e0) (by simp only [List.length_replicate]; omega) (by simp; omega) (by simp only; omega) (fun b h => by have := (hQ.2 b h).2; omega)
  simp only at h44
  rw [h44]
  obtain ⟨R', hra⟩ := run_all I Q.length 0 false (by omega)
  have hrF : runF ⟨n0, W, false, false, false, 0⟩ ⟨n0, 0, Q, w, false⟩ (List.replicate Q.length e0) = (0, stI Q n0 w W Q.length Q.length 0 R') := by
    unfold runF
    rw [if_neg (by simpa using hboth.1), if_neg (by simpa using hboth.2), if_neg (by simp; omega)]
    have : (List.replicate Q.length e0).any badRoom = false := by
      rw [Bool.eq_false_iff]
      intro h'
      obtain ⟨e, he, hb⟩ := List.any_eq_true.1 h'
      rw [List.eq_of_mem_replicate he] at hb
      simp [badRoom, e0, inB] at hb
    rw [this, st0, hra]
    simp
  rw [hrF]
  have hd : (Q.drop Q.length).length = 0 := by simp
  simp only [ap44, stI, hd, Int.natCast_zero, BEq.rfl, cond_true, List.take_length]
  rw [f46_eq _ (by omega) (by omega) (fun b h => by have := (hQ.2 b h).2; exact ⟨by omega, by omega⟩)]
  simp only [decide_true, BEq.rfl, cond_true, f21_eq (show 6 < k by omega)]
end Go.Proofs.Ytadkplikobhckaa.PM

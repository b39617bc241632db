/- Plain laws of commands: what the ground does. -/
import Derived.Test.YtadkplikobhckaaPlTakes
set_option linter.unusedSimpArgs false
set_option linter.unusedVariables false
namespace Go.Proofs.Ytadkplikobhckaa.PM
open Go Go.Proofs.Ytadkplikobhckaa.Bt
variable {R : Type}

structure Gd where
  a : Int
  s : Int
  q : List (List Int)
  w : Int
  st : Bool
def zG : Gd := ⟨0, 0, [], 0, false⟩
theorem f74_eq {k : Nat} (hk : 1 < k) (a lo hi : Int) (K : Int → Option R) : f74 k a lo hi K = K (if inB a lo hi then 0 else 1) := by
  rw [f74_def]
  obtain ⟨k, rfl⟩ := succ_of hk
  simp only [f74d, f62_eq (show 0 < k by omega)]
  cases inB a lo hi <;> rfl
def firstBad : List (List Int) → Int
  | [] => 0
  | b :: l => if chkBody b.length = 0 then firstBad l else chkBody b.length
def mn (g : Gd) : Int := if (g.q.length : Int) < g.w then (g.q.length : Int) else g.w
def chkGround (g : Gd) : Int :=
  if inB g.a 0 255 = false then 1 else if inB g.w 1 127 = false then 1 else if 500 < g.q.length then 2 else if firstBad g.q ≠ 0 then firstBad g.q
  else if inB g.s 0 (mn g) then 0 else 1
theorem ground_loop (k : Nat) (hk : 1 < k) (K : Int → Option R) (x : Option R) (l : List (List Int)) (p q : Int) (m : List (List Int)) (r : Int) (t : Bool) (hl : l.length < 4611686018427387904) : ∀ (d f i : Nat), i + d = l.length → d < f →
    f35_1d k K x l (l.length : Int) p q m r t f (i : Int) = if firstBad (l.drop i) = 0 then x else K (firstBad (l.drop i))
  | d, 0, i, _, h => absurd h (Nat.not_lt_zero _)
  | 0, f + 1, i, hi, _ => by
    have h1 : decide ((i : Int) < (l.length : Int)) = false := by simp only [decide_eq_false_iff_not]; omega
    simp only [f35_1d, f35_1b, h1, cond_false]
    rw [List.drop_of_length_le (by omega)]
    rfl
  | d + 1, f + 1, i, hi, hf => by
    have h1 : decide ((i : Int) < (l.length : Int)) = true := by simp only [decide_eq_true_eq]; omega
    have h0 : decide ((0 : Int) ≤ (i : Int)) = true := by simp
    have hw : IntKind.i64.wrap ((i : Int) + 1) = ((i + 1 : Nat) : Int) := by rw [wraps_i64 _ (by omega) (by omega)]; omega
    have hli : i < l.length := by omega
    simp only [f35_1d, f35_1b, h1, h0, cond_true, Bool.and_self, Int.toNat_natCast, hw]
    have g1 : l.getD i [] = l[i] := by rw [List.getD_eq_getElem?_getD, List.getElem?_eq_getElem hli]; rfl
    rw [g1, List.drop_eq_getElem_cons hli, f70_eq (show 0 < k by omega), bne_dec]
    by_cases e : chkBody l[i].length = 0
    · simp only [e, decide_true, Bool.not_true, cond_false, firstBad, if_true]
      exact ground_loop k hk K x l p q m r t hl d f (i + 1) (by omega) (by omega)
    · simp only [e, decide_false, Bool.not_false, cond_true, firstBad, if_false]
theorem f35_eq {k : Nat} (g : Gd) (hk : g.q.length + 5 < k) (hl : g.q.length < 4611686018427387904) (K : Int → Option R) : f35 k g.a g.s g.q g.w g.st K = K (chkGround g) := by
  rw [f35_def]
  obtain ⟨k, rfl⟩ := succ_of (show 0 < k by omega)
  simp only [f35d, f62_eq (show 0 < k by omega), chkGround, f35_1_def]
  rw [show (0 : Int) = ((0 : Nat) : Int) from rfl, ground_loop k (by omega) _ _ g.q _ _ _ _ _ hl g.q.length k 0 (by omega) (by omega)]
  rw [show ((0 : Nat) : Int) = 0 from rfl, List.drop_zero, f74_eq (by omega)]
  cases inB g.a 0 255
  · simp
  · cases inB g.w 1 127
    · simp
    · by_cases h5 : 500 < g.q.length
      · have : decide ((g.q.length : Int) > 500) = true := by simp only [decide_eq_true_eq]; omega
        simp [this, h5]
      · have : decide ((g.q.length : Int) > 500) = false := by simp only [decide_eq_false_iff_not]; omega
        simp only [this, h5, if_false, cond_false, Bool.not_true, BEq.rfl, cond_true, Bool.true_eq_false]
        by_cases hb : firstBad g.q = 0
        · simp only [hb, if_true, ne_eq, not_true_eq_false, if_false]
          change K (if inB g.s 0 (mn g) = true then 0 else 1) = K (if inB g.s 0 (mn g) = true then 0 else 1)
          rfl
        · simp only [hb, if_false, ne_eq, not_false_eq_true, if_true]
theorem ground_loop2 (k : Nat) (hk : 1 < k) (K : Int → Option R) (x : Option R) (l : List (List Int)) (p q : Int) (m : List (List Int)) (r : Int) (t : Bool) (hl : l.length < 4611686018427387904) : ∀ (d f i : Nat), i + d = l.length → d < f →
    f36_0d k K x l (l.length : Int) p q m r t f (i : Int) = if firstBad (l.drop i) = 0 then x else K (firstBad (l.drop i))
  | d, 0, i, _, h => absurd h (Nat.not_lt_zero _)
  | 0, f + 1, i, hi, _ => by
    have h1 : decide ((i : Int) < (l.length : Int)) = false := by simp only [decide_eq_false_iff_not]; omega
    simp only [f36_0d, f36_0b, h1, cond_false]
    rw [List.drop_of_length_le (by omega)]
    rfl
  | d + 1, f + 1, i, hi, hf => by
    have h1 : decide ((i : Int) < (l.length : Int)) = true := by simp only [decide_eq_true_eq]; omega
    have h0 : decide ((0 : Int) ≤ (i : Int)) = true := by simp
    have hw : IntKind.i64.wrap ((i : Int) + 1) = ((i + 1 : Nat) : Int) := by rw [wraps_i64 _ (by omega) (by omega)]; omega
    have hli : i < l.length := by omega
    simp only [f36_0d, f36_0b, h1, h0, cond_true, Bool.and_self, Int.toNat_natCast, hw]
    have g1 : l.getD i [] = l[i] := by rw [List.getD_eq_getElem?_getD, List.getElem?_eq_getElem hli]; rfl
    rw [g1, List.drop_eq_getElem_cons hli, f72_eq (show 0 < k by omega), bne_dec]
    by_cases e : chkBody l[i].length = 0
    · simp only [e, decide_true, Bool.not_true, cond_false, firstBad, if_true]
      exact ground_loop2 k hk K x l p q m r t hl d f (i + 1) (by omega) (by omega)
    · simp only [e, decide_false, Bool.not_false, cond_true, firstBad, if_false]
theorem f36_eq {k : Nat} (g : Gd) (hk : g.q.length + 5 < k) (hl : g.q.length < 4611686018427387904) (K : Int → Option R) : f36 k g.a g.s g.q g.w g.st K = K (chkGround g) := by
  rw [f36_def]
  obtain ⟨k, rfl⟩ := succ_of (show 0 < k by omega)
  simp only [f36d, f63_eq (show 0 < k by omega), chkGround, f36_0_def]
  rw [show (0 : Int) = ((0 : Nat) : Int) from rfl, ground_loop2 k (by omega) _ _ g.q _ _ _ _ _ hl g.q.length k 0 (by omega) (by omega)]
  rw [show ((0 : Nat) : Int) = 0 from rfl, List.drop_zero]
  cases inB g.a 0 255
  · simp
  · cases inB g.w 1 127
    · simp
    · by_cases h5 : 500 < g.q.length
      · have : decide ((g.q.length : Int) > 500) = true := by simp only [decide_eq_true_eq]; omega
        simp [this, h5]
      · have : decide ((g.q.length : Int) > 500) = false := by simp only [decide_eq_false_iff_not]; omega
        simp only [this, h5, if_false, cond_false, Bool.not_true, BEq.rfl, cond_true, Bool.true_eq_false]
        by_cases hb : firstBad g.q = 0
        · simp only [hb, if_true, ne_eq, not_true_eq_false, if_false]
          change (bif !inB g.s 0 (mn g) then K 1 else K 0) = K (if inB g.s 0 (mn g) = true then 0 else 1)
          generalize inB g.s 0 (mn g) = c
          cases c <;> rfl
        · simp only [hb, if_false, ne_eq, not_false_eq_true, if_true]
theorem firstBad_ok : ∀ {l : List (List Int)}, firstBad l = 0 → ∀ b ∈ l, 1 ≤ b.length ∧ b.length ≤ 200
  | [], _, _, h => by cases h
  | c :: l, h, b, hb => by
    simp only [firstBad] at h
    split at h
    · rename_i hc
      rcases List.mem_cons.1 hb with rfl | hb
      · unfold chkBody at hc
        split at hc
        · cases hc
        · split at hc
          · cases hc
          · omega
      · exact firstBad_ok h b hb
    · rename_i hc; exact absurd h hc
structure GOk (g : Gd) : Prop where
  a : 0 ≤ g.a ∧ g.a ≤ 255
  w : 1 ≤ g.w ∧ g.w ≤ 127
  q : g.q.length ≤ 500
  b : ∀ b ∈ g.q, 1 ≤ b.length ∧ b.length ≤ 200
  s : 0 ≤ g.s ∧ g.s ≤ (g.q.length : Int) ∧ g.s ≤ g.w
theorem chkGround_ok {g : Gd} (h : chkGround g = 0) : GOk g := by
  unfold chkGround at h
  cases ha : inB g.a 0 255
  · simp [ha] at h
  · cases hw : inB g.w 1 127
    · simp [ha, hw] at h
    · by_cases h5 : 500 < g.q.length
      · simp [ha, hw, h5] at h
      · by_cases hb : firstBad g.q = 0
        · cases hs : inB g.s 0 (mn g)
          · simp [ha, hw, h5, hb, hs] at h
          · have := inB_iff.1 hs
            refine ⟨inB_iff.1 ha, inB_iff.1 hw, by omega, firstBad_ok hb, ?_⟩
            unfold mn at this
            split at this <;> omega
        · simp [ha, hw, h5, hb] at h

theorem LIM24 : LIM 24 = 5864062014805 := by simp [LIM]
theorem f73_eq {k : Nat} (hk : 0 < k) (l : List (List Int)) (hl : l.length ≤ 5864062014805) (K : List (List Int) → Option R) : f73 k l K = K l := by
  rw [f73_def]
  obtain ⟨k, rfl⟩ := succ_of hk
  simp only [f73d, LIM24, hl, decide_true, cond_true]
theorem copy_loop (k : Nat) (hk : 0 < k) (x : List (List Int) → Option R) (l : List (List Int)) (p q r : Int) (t : Bool) (p' q' r' : Int) (t' : Bool) (hl : l.length ≤ 5864062014805) (hb : ∀ b ∈ l, b.length ≤ 140737488355328) : ∀ (d f i : Nat), i + d = l.length → d < f →
    f71_0d k x (l.length : Int) p q r t p' q' r' t' f (i : Int) l = x l
  | d, 0, i, _, h => absurd h (Nat.not_lt_zero _)
  | 0, f + 1, i, hi, _ => by
    have h1 : decide ((i : Int) < (l.length : Int)) = false := by simp only [decide_eq_false_iff_not]; omega
    simp only [f71_0d, f71_0b, h1, cond_false]
  | d + 1, f + 1, i, hi, hf => by
    have h1 : decide ((i : Int) < (l.length : Int)) = true := by simp only [decide_eq_true_eq]; omega
    have h0 : decide ((0 : Int) ≤ (i : Int)) = true := by simp
    have hw : IntKind.i64.wrap ((i : Int) + 1) = ((i + 1 : Nat) : Int) := by rw [wraps_i64 _ (by omega) (by omega)]; omega
    have hli : i < l.length := by omega
    have g1 : l.getD i [] = l[i] := by rw [List.getD_eq_getElem?_getD, List.getElem?_eq_getElem hli]; rfl
    have g2 := hb _ (List.getElem_mem hli)
    simp only [f71_0d, f71_0b, h1, h0, cond_true, Bool.and_self, Int.toNat_natCast, hw, g1]
    rw [f59_eq hk _ g2, List.set_getElem_self]
    exact copy_loop k hk x l p q r t p' q' r' t' hl hb d f (i + 1) (by omega) (by omega)
theorem f71_eq {k : Nat} (g : Gd) (hk : g.q.length + 5 < k) (hl : g.q.length ≤ 5864062014805) (hb : ∀ b ∈ g.q, b.length ≤ 140737488355328) (K : Int → Int → Int → Bool → List (List Int) → Option R) :
    f71 k g.a g.s g.q g.w g.st K = K g.a g.s g.w g.st g.q := by
  rw [f71_def]
  obtain ⟨k, rfl⟩ := succ_of (show 0 < k by omega)
  simp only [f71d, f73_eq (show 0 < k by omega) _ hl, f71_0_def]
  exact copy_loop k (by omega) _ g.q _ _ _ _ _ _ _ _ hl hb g.q.length k 0 (by omega) (by omega)
theorem bodies_loop (k : Nat) (K : Bool → Option R) (l : List (List Int)) (hl : l.length ≤ 100000) (hb : ∀ b ∈ l, b.length + 1 < k ∧ b.length ≤ 100000) (m : List (List Int)) (hlm : l.length = m.length) : ∀ (d f i : Nat), i + d = l.length → d < f →
    f46_0d k K (K true) l m (l.length : Int) f (i : Int) = K (decide (l.drop i = m.drop i))
  | d, 0, i, _, h => absurd h (Nat.not_lt_zero _)
  | 0, f + 1, i, hi, _ => by
    have h1 : decide ((i : Int) < (l.length : Int)) = false := by simp only [decide_eq_false_iff_not]; omega
    simp only [f46_0d, f46_0b, h1, cond_false]
    rw [List.drop_of_length_le (by omega), List.drop_of_length_le (by omega)]
    simp
  | d + 1, f + 1, i, hi, hf => by
    have h1 : decide ((i : Int) < (l.length : Int)) = true := by simp only [decide_eq_true_eq]; omega
    have h2 : decide ((i : Int) < (m.length : Int)) = true := by simp only [decide_eq_true_eq]; omega
    have h0 : decide ((0 : Int) ≤ (i : Int)) = true := by simp
    have hw : IntKind.i64.wrap ((i : Int) + 1) = ((i + 1 : Nat) : Int) := by rw [wraps_i64 _ (by omega) (by omega)]; omega
    have hli : i < l.length := by omega
    have hmi : i < m.length := by omega
    have g1 : l.getD i [] = l[i] := by rw [List.getD_eq_getElem?_getD, List.getElem?_eq_getElem hli]; rfl
    have g2 : m.getD i [] = m[i] := by rw [List.getD_eq_getElem?_getD, List.getElem?_eq_getElem hmi]; rfl
    obtain ⟨b1, b2⟩ := hb _ (List.getElem_mem hli)
    simp only [f46_0d, f46_0b, h1, h0, h2, cond_true, Bool.and_self, Int.toNat_natCast, hw, g1, g2]
    rw [f24_eq _ b1 (by omega), List.drop_eq_getElem_cons hli, List.drop_eq_getElem_cons hmi]
    by_cases e : l[i] = m[i]
    · simp only [e, decide_true, Bool.not_true, cond_false, List.cons.injEq, true_and]
      exact bodies_loop k K l hl hb m hlm d f (i + 1) (by omega) (by omega)
    · simp only [List.cons.injEq, e, false_and, decide_false, Bool.not_false, cond_true]
theorem f46_eq {k : Nat} {l : List (List Int)} (m : List (List Int)) (hk : l.length + 5 < k) (hl : l.length ≤ 100000) (hb : ∀ b ∈ l, b.length + 5 < k ∧ b.length ≤ 100000) (K : Bool → Option R) : f46 k l m K = K (decide (l = m)) := by
  rw [f46_def]
  obtain ⟨k, rfl⟩ := succ_of (show 0 < k by omega)
  simp only [f46d, f46_0_def, bne_dec]
  by_cases h : l.length = m.length
  · have : decide ((l.length : Int) = (m.length : Int)) = true := by simp only [decide_eq_true_eq]; omega
    simp only [this, Bool.not_true, cond_false]
    exact (bodies_loop k K l hl (fun b h => ⟨by have := (hb b h).1; omega, (hb b h).2⟩) m h l.length k 0 (by omega) (by omega)).trans (by simp)
  · have : decide ((l.length : Int) = (m.length : Int)) = false := by simp only [decide_eq_false_iff_not]; omega
    have h' : ¬ l = m := fun e => h (by rw [e])
    simp [this, h']
theorem f37_same {k : Nat} (g : Gd) (hk : g.q.length + 10 < k) (hl : g.q.length ≤ 100000) (hb : ∀ b ∈ g.q, b.length + 10 < k ∧ b.length ≤ 100000) (K : Bool → Option R) :
    f37 k g.a g.s g.q g.w g.st g.a g.s g.q g.w g.st K = K true := by
  rw [f37_def]
  obtain ⟨k, rfl⟩ := succ_of (show 0 < k by omega)
  simp only [f37d, BEq.rfl, cond_true]
  rw [f46_eq _ (by omega) hl (fun b h => ⟨by have := (hb b h).1; omega, (hb b h).2⟩)]
  simp
/-! Queue -/
def queueF (g : Gd) (body : List Int) : Gd × Int :=
  if chkGround g ≠ 0 then (zG, chkGround g) else if g.q.length = 500 then (zG, 16) else if chkBody body.length ≠ 0 then (zG, chkBody body.length) else ({ g with q := g.q ++ [body] }, 0)
theorem chkBody_ok {n : Nat} (h : chkBody n = 0) : 1 ≤ n ∧ n ≤ 200 := by
  unfold chkBody at h
  split at h
  · cases h
  · split at h
    · cases h
    · omega
theorem f33_eq {k : Nat} (g : Gd) (hk : g.q.length + 600 < k) (hl : g.q.length < 4611686018427387904) (body : List Int) (K : Int → Int → Int → Bool → Int → List (List Int) → Option R) :
    f33 k g.a g.s g.q g.w g.st body K = K (queueF g body).1.a (queueF g body).1.s (queueF g body).1.w (queueF g body).1.st (queueF g body).2 (queueF g body).1.q := by
  rw [f33_def]
  obtain ⟨k, rfl⟩ := succ_of (show 0 < k by omega)
  simp only [f33d, f35_eq g (show _ < k by omega) hl, f70_eq (show 0 < k by omega), bne_dec, queueF]
  by_cases hg : chkGround g = 0
  · have G := chkGround_ok hg
    by_cases h5 : g.q.length = 500
    · simp [hg, h5, zG]
    · have : ((g.q.length : Int) == 500) = false := by simp; omega
      by_cases hb : chkBody body.length = 0
      · have := chkBody_ok hb
        have hq := G.q
        have h24 : g.q.length + ([body] : List (List Int)).length ≤ 5864062014805 := by simp; omega
        simp only [hg, decide_true, Bool.not_true, cond_false, ‹((g.q.length : Int) == 500) = false›, hb, f71_eq g (show _ < k by omega) (by omega) (fun b h => by have := (G.b b h).2; omega), f59_eq (show 0 < k by omega) body (by omega), LIM24, h24, cond_true, ne_eq, not_true_eq_false, if_false, h5]
      · simp [hg, h5, this, hb, zG]
  · simp [hg, zG]
theorem f34_eq {k : Nat} (g : Gd) (hk : g.q.length + 600 < k) (hl : g.q.length < 4611686018427387904) (body : List Int) (K : Int → Int → Int → Bool → Int → List (List Int) → Option R) :
    f34 k g.a g.s g.q g.w g.st body K = K (queueF g body).1.a (queueF g body).1.s (queueF g body).1.w (queueF g body).1.st (queueF g body).2 (queueF g body).1.q := by
  rw [f34_def]
  obtain ⟨k, rfl⟩ := succ_of (show 0 < k by omega)
  simp only [f34d, f36_eq g (show _ < k by omega) hl, f72_eq (show 0 < k by omega), bne_dec, queueF]
  by_cases hg : chkGround g = 0
  · have G := chkGround_ok hg
    have hq := G.q
    by_cases h5 : g.q.length = 500
    · have : decide ((g.q.length : Int) ≥ 500) = true := by simp only [decide_eq_true_eq]; omega
      simp [hg, h5, zG, this]
    · have h5' : decide ((g.q.length : Int) ≥ 500) = false := by simp only [decide_eq_false_iff_not]; omega
      by_cases hb : chkBody body.length = 0
      · have := chkBody_ok hb
        have h24 : g.q.length + ([body] : List (List Int)).length ≤ 5864062014805 := by simp; omega
        simp only [hg, decide_true, Bool.not_true, cond_false, h5', hb, f73_eq (show 0 < k by omega) g.q (by omega), f59_eq (show 0 < k by omega) body (by omega), LIM24, h24, cond_true, ne_eq, not_true_eq_false, if_false, h5]
      · simp only [hg, decide_true, Bool.not_true, cond_false, h5', hb, decide_false, Bool.not_false, cond_true, ne_eq, not_true_eq_false, if_false, h5, not_false_eq_true, if_true, zG]
  · simp [hg, zG]
/-! Next -/
def nextS (g : Gd) : Gd × Int × Int × Bool × List Int :=
  if g.st = false ∧ g.s < mn g then ({ g with s := g.s + 1 }, 1, (g.a + g.s) % 256, true, g.q.getD g.s.toNat []) else (g, 0, 0, false, [])
def ap9 (K : Int → Int → List (List Int) → Int → Bool → Int → Int → Bool → List Int → Option R) (x : Gd × Int × Int × Bool × List Int) : Option R := K x.1.a x.1.s x.1.q x.1.w x.1.st x.2.1 x.2.2.1 x.2.2.2.1 x.2.2.2.2
theorem getD_mem {l : List (List Int)} {i : Nat} (h : i < l.length) : l.getD i [] ∈ l := by
  rw [List.getD_eq_getElem?_getD, List.getElem?_eq_getElem h]; exact List.getElem_mem h
theorem f75_eq {k : Nat} (hk : 2 < k) {g : Gd} (G : GOk g) (K : Int → Int → List (List Int) → Int → Bool → Int → Int → Bool → List Int → Option R) : f75 k g.a g.s g.q g.w g.st K = ap9 K (nextS g) := by
  rw [f75_def]
  obtain ⟨k, rfl⟩ := succ_of (show 0 < k by omega)
  obtain ⟨s1, s2, s3⟩ := G.s
  have ha := G.a
  have hq := G.q
  simp only [f75d, beq_dec, nextS]
  cases hst : g.st
  · by_cases e1 : g.s = (g.q.length : Int)
    · have : ¬ g.s < mn g := by unfold mn; split <;> omega
      simp [e1, this, ap9, hst]
      rw [← e1]; simp [this, hst]
    · by_cases e2 : g.s = g.w
      · have : ¬ g.s < mn g := by unfold mn; split <;> omega
        simp only [e1, decide_false, e2, decide_true, cond_true, BEq.rfl]
        rw [if_neg (by rw [← e2]; simp [this])]
        simp [ap9, e2, hst]
      · have : g.s < mn g := by unfold mn; split <;> omega
        have h0 : decide ((0 : Int) ≤ g.s) = true := by simp only [decide_eq_true_eq]; omega
        have h1 : decide (g.s < (g.q.length : Int)) = true := by simp only [decide_eq_true_eq]; omega
        have hb := (G.b _ (getD_mem (l := g.q) (i := g.s.toNat) (by omega))).2
        simp only [e1, e2, decide_false, BEq.rfl, cond_true, cond_false, h0, h1, Bool.and_self, f59_eq (show 0 < k by omega) _ (show (g.q.getD g.s.toNat []).length ≤ 140737488355328 by omega)]
        rw [wi (n := g.s + 1) (by omega) (by omega), wi (n := g.a + g.s) (by omega) (by omega), tmod_nn (by omega), if_pos ⟨trivial, this⟩]
        simp [ap9, hst]
  · simp [ap9, hst]
theorem f76_eq {k : Nat} (hk : 2 < k) {g : Gd} (G : GOk g) (K : Int → Int → List (List Int) → Int → Bool → Int → Int → Bool → List Int → Option R) : f76 k g.a g.s g.q g.w g.st K = ap9 K (nextS g) := by
  rw [f76_def]
  obtain ⟨k, rfl⟩ := succ_of (show 0 < k by omega)
  obtain ⟨s1, s2, s3⟩ := G.s
  have ha := G.a
  have hq := G.q
  simp only [f76d, nextS]
  change (bif g.st == false then (bif decide (g.s ≥ mn g) then _ else _) else _) = _
  cases hst : g.st
  · by_cases e1 : g.s < mn g
    · have h2 : decide (g.s ≥ mn g) = false := by simp only [decide_eq_false_iff_not]; omega
      have h0 : decide ((0 : Int) ≤ g.s) = true := by simp only [decide_eq_true_eq]; omega
      have h1 : decide (g.s < (g.q.length : Int)) = true := by simp only [decide_eq_true_eq]; unfold mn at e1; split at e1 <;> omega
      have hb := (G.b _ (getD_mem (l := g.q) (i := g.s.toNat) (by have := of_decide_eq_true h1; omega))).2
      simp only [h2, BEq.rfl, cond_true, cond_false, h0, h1, Bool.and_self, f59_eq (show 0 < k by omega) _ (show (g.q.getD g.s.toNat []).length ≤ 140737488355328 by omega)]
      rw [wi (n := g.s + 1) (by omega) (by omega), wi (n := g.a + g.s) (by omega) (by omega), tmod_nn (by omega), if_pos ⟨trivial, e1⟩]
      simp [ap9, hst]
    · have h2 : decide (g.s ≥ mn g) = true := by simp only [decide_eq_true_eq]; omega
      simp only [h2, BEq.rfl, cond_true]
      rw [if_neg (by simp [e1])]
      simp [ap9, hst]
  · simp [ap9, hst]
def nextF (g : Gd) : (Gd × Int × Int × Bool × List Int) × Int := if chkGround g ≠ 0 then ((zG, 0, 0, false, []), chkGround g) else (nextS g, 0)
def ap10 (K : Int → Int → List (List Int) → Int → Bool → Int → Int → Bool → Int → List Int → Option R) (x : Gd × Int × Int × Bool × List Int) (f : Int) : Option R := K x.1.a x.1.s x.1.q x.1.w x.1.st x.2.1 x.2.2.1 x.2.2.2.1 f x.2.2.2.2
theorem f38_eq {k : Nat} (g : Gd) (hk : g.q.length + 600 < k) (hl : g.q.length < 4611686018427387904) (K : Int → Int → List (List Int) → Int → Bool → Int → Int → Bool → Int → List Int → Option R) :
    f38 k g.a g.s g.q g.w g.st K = ap10 K (nextF g).1 (nextF g).2 := by
  rw [f38_def]
  obtain ⟨k, rfl⟩ := succ_of (show 0 < k by omega)
  simp only [f38d, f35_eq g (show _ < k by omega) hl, bne_dec, nextF]
  by_cases hg : chkGround g = 0
  · have G := chkGround_ok hg
    have hq := G.q
    simp only [hg, decide_true, Bool.not_true, cond_false, f71_eq g (show _ < k by omega) (by omega) (fun b h => by have := (G.b b h).2; omega), f75_eq (show 2 < k by omega) G, ne_eq, not_true_eq_false, if_false]
    rfl
  · simp [hg, zG, ap10]
theorem f39_eq {k : Nat} (g : Gd) (hk : g.q.length + 600 < k) (hl : g.q.length < 4611686018427387904) (K : Int → Int → List (List Int) → Int → Bool → Int → Int → Bool → Int → List Int → Option R) :
    f39 k g.a g.s g.q g.w g.st K = ap10 K (nextF g).1 (nextF g).2 := by
  rw [f39_def]
  obtain ⟨k, rfl⟩ := succ_of (show 0 < k by omega)
  simp only [f39d, f36_eq g (show _ < k by omega) hl, bne_dec, nextF]
  by_cases hg : chkGround g = 0
  · have G := chkGround_ok hg
    simp only [hg, decide_true, Bool.not_true, cond_false, f76_eq (show 2 < k by omega) G, ne_eq, not_true_eq_false, if_false]
    rfl
  · simp [hg, zG, ap10]
/-! Heard -/
def heardS (g : Gd) (n : Int) (L Rt : Bool) : Gd :=
  if L then { g with st := true } else
  if (n - g.a) % 256 ≤ g.s then { g with a := n, s := if Rt then 0 else g.s - (n - g.a) % 256, q := g.q.drop ((n - g.a) % 256).toNat }
  else { g with st := true, s := if Rt then 0 else g.s }
def ap5 (K : Int → Int → List (List Int) → Int → Bool → Option R) (x : Gd) : Option R := K x.a x.s x.q x.w x.st
theorem f77_eq {k : Nat} (hk : 2 < k) {g : Gd} (G : GOk g) {n : Int} (hn : 0 ≤ n ∧ n ≤ 255) (L Rt W : Bool) (K : Int → Int → List (List Int) → Int → Bool → Option R) : f77 k g.a g.s g.q g.w g.st n L Rt W K = ap5 K (heardS g n L Rt) := by
  rw [f77_def]
  obtain ⟨k, rfl⟩ := succ_of (show 0 < k by omega)
  obtain ⟨s1, s2, s3⟩ := G.s
  have ha := G.a
  have hq := G.q
  simp only [f77d, f92_eq (show 0 < k by omega) hn ha, f77_1000006_def, f77_1000006d, f77_1000009_def, f77_1000009d, heardS]
  cases L
  · by_cases e : (n - g.a) % 256 ≤ g.s
    · have h0 : decide ((0 : Int) ≤ (n - g.a) % 256) = true := by simp only [decide_eq_true_eq]; omega
      have h1 : decide ((n - g.a) % 256 ≤ (g.q.length : Int)) = true := by simp only [decide_eq_true_eq]; omega
      have h2 : decide ((n - g.a) % 256 ≤ g.s) = true := by simpa using e
      simp only [h0, h1, h2, cond_true, cond_false, Bool.and_self, e, if_true, Bool.false_eq_true, if_false]
      rw [wi (n := g.a + (n - g.a) % 256) (by omega) (by omega), wi (n := g.s - (n - g.a) % 256) (by omega) (by omega), tmod_nn (by omega), show (g.a + (n - g.a) % 256) % 256 = n by omega]
      cases Rt <;> simp [ap5]
    · have h2 : decide ((n - g.a) % 256 ≤ g.s) = false := by simpa using e
      simp only [h2, cond_false, e, if_false, Bool.false_eq_true]
      cases Rt <;> simp [ap5]
  · simp [ap5]
theorem f78_eq {k : Nat} (hk : 2 < k) {g : Gd} (G : GOk g) {n : Int} (hn : 0 ≤ n ∧ n ≤ 255) (L Rt W : Bool) (K : Int → Int → List (List Int) → Int → Bool → Option R) : f78 k g.a g.s g.q g.w g.st n L Rt W K = ap5 K (heardS g n L Rt) := by
  rw [f78_def]
  obtain ⟨k, rfl⟩ := succ_of (show 0 < k by omega)
  obtain ⟨s1, s2, s3⟩ := G.s
  have ha := G.a
  have hq := G.q
  simp only [f78d, f94_eq (show 0 < k by omega) hn ha, f78_1000006_def, f78_1000006d, f78_1000009_def, f78_1000009d, heardS]
  cases L
  · by_cases e : (n - g.a) % 256 ≤ g.s
    · have h0 : decide ((0 : Int) ≤ (n - g.a) % 256) = true := by simp only [decide_eq_true_eq]; omega
      have h1 : decide ((n - g.a) % 256 ≤ (g.q.length : Int)) = true := by simp only [decide_eq_true_eq]; omega
      have h2 : decide ((n - g.a) % 256 > g.s) = false := by simp only [decide_eq_false_iff_not]; omega
      simp only [h0, h1, h2, cond_true, cond_false, Bool.and_self, e, if_true, Bool.false_eq_true, if_false]
      rw [f73_eq (by omega) _ (by rw [List.length_drop]; omega), wi (n := g.s - (n - g.a) % 256) (by omega) (by omega)]
      cases Rt <;> simp [ap5]
    · have h2 : decide ((n - g.a) % 256 > g.s) = true := by simp only [decide_eq_true_eq]; omega
      simp only [h2, cond_true, cond_false, e, if_false, Bool.false_eq_true]
      cases Rt <;> simp [ap5]
  · simp [ap5]
theorem heardS_ok {g : Gd} (G : GOk g) {n : Int} (hn : 0 ≤ n ∧ n ≤ 255) (L Rt : Bool) : GOk (heardS g n L Rt) := by
  obtain ⟨s1, s2, s3⟩ := G.s
  have ha := G.a
  unfold heardS
  split
  · exact ⟨G.a, G.w, G.q, G.b, G.s⟩
  · split
    · refine ⟨hn, G.w, by simp only [List.length_drop]; have := G.q; omega, fun b hb => G.b b (List.mem_of_mem_drop hb), ?_⟩
      simp only [List.length_drop]
      have := G.w
      split <;> omega
    · refine ⟨G.a, G.w, G.q, G.b, ?_⟩
      have := G.w
      simp only
      split <;> omega
def heardF (g : Gd) (n : Int) (L Rt : Bool) : Gd × Int := if chkGround g ≠ 0 then (zG, chkGround g) else if inB n 0 255 = false then (zG, 1) else (heardS g n L Rt, 0)
theorem f40_eq {k : Nat} (g : Gd) (hk : g.q.length + 600 < k) (hl : g.q.length < 4611686018427387904) (n : Int) (L Rt W : Bool) (K : Int → Int → Int → Bool → Int → List (List Int) → Option R) :
    f40 k g.a g.s g.q g.w g.st n L Rt W K = K (heardF g n L Rt).1.a (heardF g n L Rt).1.s (heardF g n L Rt).1.w (heardF g n L Rt).1.st (heardF g n L Rt).2 (heardF g n L Rt).1.q := by
  rw [f40_def]
  obtain ⟨k, rfl⟩ := succ_of (show 0 < k by omega)
  simp only [f40d, f35_eq g (show _ < k by omega) hl, f74_eq (show 1 < k by omega), bne_dec, heardF]
  rw [f65_eq (by simp; omega) (by simp)]
  by_cases hg : chkGround g = 0
  · have G := chkGround_ok hg
    cases hi : inB n 0 255
    · simp [hg, firstF, zG]
    · have hn := inB_iff.1 hi
      have G' := heardS_ok G hn L Rt
      have hq := G.q
      have hq' := G'.q
      simp only [hg, firstF, if_true, decide_true, Bool.not_true, cond_false, f77_eq (show 2 < k by omega) G hn, ap5, ne_eq, not_true_eq_false, if_false, Bool.true_eq_false]
      rw [f71_eq (heardS g n L Rt) (by omega) (by omega) (fun b h => by have := (G'.b b h).2; omega)]
  · simp [hg, firstF, zG]
theorem f41_eq {k : Nat} (g : Gd) (hk : g.q.length + 600 < k) (hl : g.q.length < 4611686018427387904) (n : Int) (L Rt W : Bool) (K : Int → Int → List (List Int) → Int → Bool → Int → Option R) :
    f41 k g.a g.s g.q g.w g.st n L Rt W K = K (heardF g n L Rt).1.a (heardF g n L Rt).1.s (heardF g n L Rt).1.q (heardF g n L Rt).1.w (heardF g n L Rt).1.st (heardF g n L Rt).2 := by
  rw [f41_def]
  obtain ⟨k, rfl⟩ := succ_of (show 0 < k by omega)
  simp only [f41d, f36_eq g (show _ < k by omega) hl, f63_eq (show 0 < k by omega), bne_dec, heardF]
  by_cases hg : chkGround g = 0
  · have G := chkGround_ok hg
    cases hi : inB n 0 255
    · simp [hg, zG]
    · have hn := inB_iff.1 hi
      simp only [hg, if_true, decide_true, Bool.not_true, cond_false, f78_eq (show 2 < k by omega) G hn, ap5, ne_eq, not_true_eq_false, if_false, Bool.true_eq_false]
  · simp [hg, zG]
/-! what they give is not too long -/
def Small (g : Gd) : Prop := g.q.length ≤ 501 ∧ ∀ b ∈ g.q, b.length ≤ 200
theorem GOk.small {g : Gd} (G : GOk g) : Small g := ⟨by have := G.q; omega, fun b h => (G.b b h).2⟩
theorem zG_small : Small zG := ⟨by simp [zG], fun b h => by simp [zG] at h⟩
theorem queueF_small (g : Gd) (body : List Int) : Small (queueF g body).1 := by
  unfold queueF
  split
  · exact zG_small
  · rename_i hg
    split
    · exact zG_small
    · split
      · exact zG_small
      · rename_i hb
        have G := chkGround_ok (Decidable.not_not.1 hg)
        have hbb := chkBody_ok (Decidable.not_not.1 hb)
        refine ⟨by simp; have := G.q; omega, fun b h => ?_⟩
        simp only [List.mem_append, List.mem_singleton] at h
        rcases h with h | rfl
        · exact (G.b b h).2
        · exact hbb.2
theorem nextF_small (g : Gd) : Small (nextF g).1.1 ∧ (nextF g).1.2.2.2.2.length ≤ 200 := by
  unfold nextF
  split
  · exact ⟨zG_small, by simp⟩
  · rename_i hg
    have G := chkGround_ok (Decidable.not_not.1 hg)
    unfold nextS
    split
    · rename_i h
      refine ⟨⟨by have := G.q; simp only; omega, fun b h => (G.b b h).2⟩, ?_⟩
      refine (G.b _ (getD_mem ?_)).2
      have hm := h.2
      have hs := G.s
      unfold mn at hm
      split at hm <;> omega
    · exact ⟨G.small, by simp⟩
theorem heardF_small (g : Gd) (n : Int) (L Rt : Bool) : Small (heardF g n L Rt).1 := by
  unfold heardF
  split
  · exact zG_small
  · rename_i hg
    split
    · exact zG_small
    · rename_i hi
      exact (heardS_ok (chkGround_ok (Decidable.not_not.1 hg)) (inB_iff.1 (by simpa using hi)) L Rt).small
theorem f7_eq {k : Nat} (g : Gd) (hk : g.q.length + 2000 < k) (hl : g.q.length < 4611686018427387904) (body : List Int) (n : Int) (L Rt W : Bool) (K : Bool → Option R) : f7 k g.a g.s g.q g.w g.st body n L Rt W K = K true := by
  rw [f7_def]
  obtain ⟨k, rfl⟩ := succ_of (show 0 < k by omega)
  have sm : ∀ {x : Gd}, Small x → ∀ K : Bool → Option R, f37 k x.a x.s x.q x.w x.st x.a x.s x.q x.w x.st K = K true := fun {x} h K =>
    f37_same x (by have := h.1; omega) (by have := h.1; omega) (fun b hb => by have := h.2 b hb; exact ⟨by omega, by omega⟩) K
  have hn := nextF_small g
  simp only [f7d, f33_eq g (show _ < k by omega) hl, f34_eq g (show _ < k by omega) hl, f35_eq g (show _ < k by omega) hl, f36_eq g (show _ < k by omega) hl, bne_dec, decide_true, Bool.not_true, BEq.rfl, cond_true, sm (queueF_small g body),
    cond_false, f38_eq g (show _ < k by omega) hl, f39_eq g (show _ < k by omega) hl, ap10, sm hn.1, f40_eq g (show _ < k by omega) hl, f41_eq g (show _ < k by omega) hl, sm (heardF_small g n L Rt), f21_eq (show 6 < k by omega)]
  rw [f18_eq _ _ _ _ _ (by have := hn.2; omega) (by have := hn.2; omega)]
  simp
end Go.Proofs.Ytadkplikobhckaa.PM

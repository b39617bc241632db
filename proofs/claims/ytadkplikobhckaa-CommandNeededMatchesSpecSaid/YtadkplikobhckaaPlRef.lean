/- Plain laws of commands: the reference's run, and the law of runs. -/
import Derived.Test.YtadkplikobhckaaPlRuns
set_option linter.unusedSimpArgs false
set_option linter.unusedVariables false
namespace Go.Proofs.Ytadkplikobhckaa.PM
open Go Go.Proofs.Ytadkplikobhckaa.Bt
variable {R : Type}

abbrev K45 (R : Type) := Int → Int → Bool → Bool → Bool → Int → Int → Int → List (List Int) → Int → Bool → Int → List (List Int) → Option R
def ap45 (K : K45 R) (r : Int × Sta) : Option R := K r.2.b.n r.2.b.w r.2.b.L r.2.b.Rt r.2.b.W r.2.b.t r.2.g.a r.2.g.s r.2.g.q r.2.g.w r.2.g.st r.1 r.2.o
theorem rooms_loop (k : Nat) (hk : 2 < k) (K : K45 R) (x0 : Option R) (l : List Be) (hl : l.length < 4611686018427387904) (c1 c2 : Int) (c3 c4 c5 : Bool) (c6 c7 c8 : Int) (c9 : List (List Int)) (c10 : Int) (c11 : Bool) (d1 d2 : Int) (d3 d4 d5 : Bool) (d6 d7 d8 d9 : Int) (d10 : Bool) : ∀ (d f i : Nat), i + d = l.length → d < f →
    f45_0d k K x0 l l (l.length : Int) c1 c2 c3 c4 c5 c6 c7 c8 c9 c10 c11 d1 d2 d3 d4 d5 d6 d7 d8 d9 d10 f (i : Int) = if (l.drop i).any badRoom then ap45 K (1, z0) else x0
  | d, 0, i, _, h => absurd h (Nat.not_lt_zero _)
  | 0, f + 1, i, hi, _ => by
    have h1 : decide ((i : Int) < (l.length : Int)) = false := by simp only [decide_eq_false_iff_not]; omega
    simp only [f45_0d, f45_0b, h1, cond_false]
    rw [List.drop_of_length_le (by omega)]
    rfl
  | d + 1, f + 1, i, hi, hf => by
    have h1 : decide ((i : Int) < (l.length : Int)) = true := by simp only [decide_eq_true_eq]; omega
    have h0 : decide ((0 : Int) ≤ (i : Int)) = true := by simp
    have hw : IntKind.i64.wrap ((i : Int) + 1) = ((i + 1 : Nat) : Int) := by rw [wraps_i64 _ (by omega) (by omega)]; omega
    have hli : i < l.length := by omega
    have g1 : ∀ z, l.getD i z = l[i] := fun z => by rw [List.getD_eq_getElem?_getD, List.getElem?_eq_getElem hli]; rfl
    simp only [f45_0d, f45_0b, h1, h0, cond_true, Bool.and_self, Int.toNat_natCast, hw, g1, f63_eq (show 0 < k by omega)]
    rw [List.drop_eq_getElem_cons hli, List.any_cons]
    have ih := rooms_loop k hk K x0 l hl c1 c2 c3 c4 c5 c6 c7 c8 c9 c10 c11 d1 d2 d3 d4 d5 d6 d7 d8 d9 d10 d f (i + 1) (by omega) (by omega)
    cases hb : inB l[i].2.2.2.2.1 0 2
    · simp [badRoom, hb, ap45, z0, zB, zG]
    · simp only [badRoom, hb, Bool.not_true, cond_false, Bool.false_or]
      exact ih
theorem takeF_next {b : Bd} (hb : chkBoard b = 0) {num : Int} {n : Nat} (hn : 0 ≤ num ∧ num ≤ 255) (h1 : 1 ≤ n) (h2 : n ≤ 200) :
    chkOrder 1 num n = 0 ∧ takeF b 1 num n = if (takeS b 1 num).1.t > 1000000 then ((zB, 0), 16) else (takeS b 1 num, 0) := by
  have ho : chkOrder 1 num n = 0 := by
    have : chkBody n = 0 := by unfold chkBody; rw [if_neg (by omega), if_neg (by omega)]
    simp [chkOrder, inB_iff.2 (show (1 : Int) ≤ 1 ∧ (1 : Int) ≤ 5 by omega), inB_iff.2 hn, this]
  refine ⟨ho, ?_⟩
  unfold takeF
  simp [hb, ho]
abbrev Rec (R : Type) := Int → Int → Int → Bool → Bool → Bool → Int → Int → Int → List (List Int) → Int → Bool → List (List Int) → Option R
theorem ref_step (k : Nat) (hk : 30 < k) (rec : Rec R) (K : K45 R) (x2 : Int → Int → Bool → Bool → Bool → Int → Int → Int → List (List Int) → Int → Bool → List (List Int) → Option R) (l : List Be) (c1 c2 : Int) (c3 c4 c5 : Bool) (c6 c7 c8 c9 : Int) (c10 : Bool)
    (i : Nat) (hi : i < l.length) (hl : l.length ≤ 50000) (hr : badRoom l[i] = false) {x : Sta} (H : SOk x) (ho : x.o.length ≤ i) :
    f45_2b k rec K x2 l (l.length : Int) c1 c2 c3 c4 c5 c6 c7 c8 c9 c10 (i : Int) x.b.n x.b.w x.b.L x.b.Rt x.b.W x.b.t x.g.a x.g.s x.g.q x.g.w x.g.st x.o =
      if (beatS l[i] x).1 ≠ 0 then ap45 K ((beatS l[i] x).1, z0) else apB rec ((i + 1 : Nat) : Int) (beatS l[i] x).2 := by
  have h1 : decide ((i : Int) < (l.length : Int)) = true := by simp only [decide_eq_true_eq]; omega
  have h0 : decide ((0 : Int) ≤ (i : Int)) = true := by simp
  have hw : IntKind.i64.wrap ((i : Int) + 1) = ((i + 1 : Nat) : Int) := by rw [wraps_i64 _ (by omega) (by omega)]; omega
  have g1 : ∀ z, l.getD i z = l[i] := fun z => by rw [List.getD_eq_getElem?_getD, List.getElem?_eq_getElem hi]; rfl
  simp only [f45_2b, h1, h0, cond_true, Bool.and_self, Int.toNat_natCast, hw, g1]
  generalize l[i] = e at hr
  have hroom : 0 ≤ e.2.2.2.2.1 ∧ e.2.2.2.2.1 ≤ 2 := inB_iff.1 (by simpa [badRoom] using hr)
  have tail : ∀ (y : Sta), SOk y → (f45_1000031 k (fun y31_N_7 => (bif (e.2.2.1 == true) then (f45_1000033 k (fun y33_N_9 y33_N_10 y33_N_11 y33_N_12 y33_N_13 => (rec ((i + 1 : Nat) : Int) y.b.n y.b.w y.b.L y.b.Rt y31_N_7 y.b.t y33_N_9 y33_N_10 y33_N_11 y33_N_12 y33_N_13 y.o)) l (l.length : Int) (i : Int) (!e.2.2.2.1) y.b.n y.b.w y.b.L y.b.Rt y31_N_7 y.b.t y.g.a y.g.s y.g.q y.g.w y.g.st c1 c2 c3 c4 c5 c6 c7 c8 c9 c10 y.o) else (f45_1000033 k (fun y33_N_9 y33_N_10 y33_N_11 y33_N_12 y33_N_13 => (rec ((i + 1 : Nat) : Int) y.b.n y.b.w y.b.L y.b.Rt y31_N_7 y.b.t y33_N_9 y33_N_10 y33_N_11 y33_N_12 y33_N_13 y.o)) l (l.length : Int) (i : Int) false y.b.n y.b.w y.b.L y.b.Rt y31_N_7 y.b.t y.g.a y.g.s y.g.q y.g.w y.g.st c1 c2 c3 c4 c5 c6 c7 c8 c9 c10 y.o))) l (l.length : Int) (i : Int) (e.2.2.2.2.1 != (0 : Int)) y.b.n y.b.w y.b.L y.b.Rt y.b.W y.b.t y.g.a y.g.s y.g.q y.g.w y.g.st c1 c2 c3 c4 c5 c6 c7 c8 c9 c10 y.o e.1 e.2.1 e.2.2.1 e.2.2.2.1 e.2.2.2.2.1)
      = apB rec ((i + 1 : Nat) : Int) ⟨roomS e y.b, repS e (roomS e y.b) y.g, y.o⟩ := by
    intro y hy
    have room : ∀ (W : Bool), (bif (e.2.2.1 == true) then (f45_1000033 k (fun y33_N_9 y33_N_10 y33_N_11 y33_N_12 y33_N_13 => (rec ((i + 1 : Nat) : Int) y.b.n y.b.w y.b.L y.b.Rt W y.b.t y33_N_9 y33_N_10 y33_N_11 y33_N_12 y33_N_13 y.o)) l (l.length : Int) (i : Int) (!e.2.2.2.1) y.b.n y.b.w y.b.L y.b.Rt W y.b.t y.g.a y.g.s y.g.q y.g.w y.g.st c1 c2 c3 c4 c5 c6 c7 c8 c9 c10 y.o) else (f45_1000033 k (fun y33_N_9 y33_N_10 y33_N_11 y33_N_12 y33_N_13 => (rec ((i + 1 : Nat) : Int) y.b.n y.b.w y.b.L y.b.Rt W y.b.t y33_N_9 y33_N_10 y33_N_11 y33_N_12 y33_N_13 y.o)) l (l.length : Int) (i : Int) false y.b.n y.b.w y.b.L y.b.Rt W y.b.t y.g.a y.g.s y.g.q y.g.w y.g.st c1 c2 c3 c4 c5 c6 c7 c8 c9 c10 y.o))
        = apB rec ((i + 1 : Nat) : Int) ⟨{ y.b with W := W }, repS e { y.b with W := W } y.g, y.o⟩ := by
      intro W
      have h69 := fun (K : Int → Bool → Bool → Bool → Option R) => f69_eq (k := k) (by omega) { y.b with W := W } K
      simp only at h69
      simp only [f45_1000033_def, f45_1000033d, h69, f78_eq (show 2 < k by omega) hy.g (chkBoard_ok hy.b).1, ap5, apB, repS]
      cases e.2.2.1 <;> cases e.2.2.2.1 <;> simp
    simp only [f45_1000031_def, f45_1000031d, bne_dec]
    by_cases hr : e.2.2.2.2.1 = 0
    · simp only [hr, decide_true, Bool.not_true, cond_false]
      rw [room]
      have : roomS e y.b = y.b := by
        unfold roomS
        rw [if_neg (by omega)]
      rw [this]
    · simp only [hr, decide_false, Bool.not_false, cond_true]
      rw [room]
      have : roomS e y.b = { y.b with W := e.2.2.2.2.1 == 2 } := by
        unfold roomS
        rw [if_pos (by omega)]
        rfl
      rw [this]
  obtain ⟨n1, n2⟩ := nextS_ok H.g
  simp only [f45_1000020_def, f45_1000020d]
  cases hs : e.1
  · have h0 : sendS e x = (0, x) := by simp [sendS, hs]
    have := tail x H
    simp only [hs] at this
    simp only [cond_false, beatS, h0, ne_eq, not_true_eq_false, if_false]
    exact this
  · simp only [cond_true, f76_eq (show 2 < k by omega) H.g, ap9]
    by_cases hn : (nextS x.g).2.2.2.1 = true
    · obtain ⟨k1, k2, k3, k4⟩ := n2 hn
      simp only [hn, BEq.rfl, cond_true, f45_1000024_def, f45_1000024d]
      cases hl : e.2.1
      · obtain ⟨ho1, htk⟩ := takeF_next H.b k2 k3 k4
        have h67 := fun (K : Int → Int → Bool → Bool → Bool → Int → Int → Option R) => f67_eq (k := k) (by omega) H.b (kind := 1) (num := (nextS x.g).2.2.1) (l := (nextS x.g).2.2.2.2) ho1 K
        have LIM24' : x.o.length + ([(nextS x.g).2.2.2.2] : List (List Int)).length ≤ LIM 24 := by rw [LIM24]; simp; omega
        simp only [Bool.not_false, cond_true, k1, h67, ap7]
        by_cases hf : (takeS x.b 1 (nextS x.g).2.2.1).1.t > 1000000
        · rw [if_pos hf] at htk
          have h0 : sendS e x = (16, ⟨x.b, (nextS x.g).1, x.o⟩) := by
            simp only [sendS, hs, hn, hl, and_self, if_true, ne_eq, k1, htk]
            rfl
          simp [hf, beatS, h0, ap45, z0, zB, zG]
        · rw [if_neg hf] at htk
          have h0 : sendS e x = (0, ⟨(takeS x.b 1 (nextS x.g).2.2.1).1, (nextS x.g).1, if (takeS x.b 1 (nextS x.g).2.2.1).2 = 1 then x.o ++ [(nextS x.g).2.2.2.2] else x.o⟩) := by
            simp only [sendS, hs, hn, hl, and_self, if_true, ne_eq, not_true_eq_false, if_false, k1, htk]
          have hq := (sendS_ok (e := e) H (by rw [h0])).1
          have := tail _ hq
          rw [h0] at this
          simp only [hs, hl] at this
          simp only [hf, decide_false, cond_false, f45_1000029_def, f45_1000029d, beq_dec, beatS, h0, ne_eq, not_true_eq_false, if_false, LIM24', cond_true]
          by_cases hw : (takeS x.b 1 (nextS x.g).2.2.1).2 = 1
          · simp only [hw, if_true] at this ⊢
            simpa using this
          · simp only [hw, if_false] at this ⊢
            simpa using this
      · have h0 : sendS e x = (0, ⟨x.b, (nextS x.g).1, x.o⟩) := by simp [sendS, hs, hl]
        have := tail _ (sendS_ok (e := e) H (by rw [h0])).1
        rw [h0] at this
        simp only [hs, hl] at this
        simp only [Bool.not_true, cond_false, beatS, h0, ne_eq, not_true_eq_false, if_false]
        exact this
    · have hn' : (nextS x.g).2.2.2.1 = false := by simpa using hn
      have h0 : sendS e x = (0, ⟨x.b, (nextS x.g).1, x.o⟩) := by simp [sendS, hs, hn']
      have := tail _ (sendS_ok (e := e) H (by rw [h0])).1
      rw [h0] at this
      simp only [hs] at this
      simp only [hn', f45_1000024_def, f45_1000024d, beatS, h0, ne_eq, not_true_eq_false, if_false]
      simpa using this
abbrev K2 (R : Type) := Int → Int → Bool → Bool → Bool → Int → Int → Int → List (List Int) → Int → Bool → List (List Int) → Option R
def ap2 (K : K2 R) (x : Sta) : Option R := K x.b.n x.b.w x.b.L x.b.Rt x.b.W x.b.t x.g.a x.g.s x.g.q x.g.w x.g.st x.o
theorem ref_loop (k : Nat) (hk : 30 < k) (K : K45 R) (x2 : K2 R) (l : List Be) (hl : l.length ≤ 50000) (hr : l.any badRoom = false) (c1 c2 : Int) (c3 c4 c5 : Bool) (c6 c7 c8 c9 : Int) (c10 : Bool) : ∀ (d f i : Nat) {x : Sta}, i + d = l.length → d < f → SOk x → x.o.length ≤ i →
    f45_2d k K x2 l (l.length : Int) c1 c2 c3 c4 c5 c6 c7 c8 c9 c10 f (i : Int) x.b.n x.b.w x.b.L x.b.Rt x.b.W x.b.t x.g.a x.g.s x.g.q x.g.w x.g.st x.o =
      if (runS (l.drop i) x).1 ≠ 0 then ap45 K ((runS (l.drop i) x).1, z0) else ap2 x2 (runS (l.drop i) x).2
  | d, 0, i, _, _, h, _, _ => absurd h (Nat.not_lt_zero _)
  | 0, f + 1, i, x, hi, _, H, ho => by
    have h1 : decide ((i : Int) < (l.length : Int)) = false := by simp only [decide_eq_false_iff_not]; omega
    simp only [f45_2d, f45_2b, h1, cond_false]
    rw [List.drop_of_length_le (by omega)]
    rfl
  | d + 1, f + 1, i, x, hi, hf, H, ho => by
    have hli : i < l.length := by omega
    have hri : badRoom l[i] = false := by
      cases hb : badRoom l[i] with
      | false => rfl
      | true =>
        have : l.any badRoom = true := List.any_eq_true.2 ⟨l[i], List.getElem_mem hli, hb⟩
        rw [hr] at this; cases this
    simp only [f45_2d]
    rw [ref_step k hk _ K x2 l c1 c2 c3 c4 c5 c6 c7 c8 c9 c10 i hli hl hri H ho, List.drop_eq_getElem_cons hli]
    by_cases hb : (beatS l[i] x).1 = 0
    · obtain ⟨q, ql⟩ := beatS_ok H hb
      have e : runS (l[i] :: l.drop (i + 1)) x = runS (l.drop (i + 1)) (beatS l[i] x).2 := by simp only [runS]; rw [if_neg (by simpa using hb)]
      rw [if_neg (by simpa using hb), e]
      exact ref_loop k hk K x2 l hl hr c1 c2 c3 c4 c5 c6 c7 c8 c9 c10 d f (i + 1) (by omega) (by omega) q (by omega)
    · have e : runS (l[i] :: l.drop (i + 1)) x = beatS l[i] x := by simp only [runS]; rw [if_pos hb]
      rw [if_pos hb, e, if_pos hb]
theorem f45_eq {k : Nat} (b : Bd) (g : Gd) (l : List Be) (hk : g.q.length + l.length + 2000 < k) (hl : l.length < 4611686018427387904) (hq : g.q.length < 4611686018427387904) (K : K45 R) :
    f45 k b.n b.w b.L b.Rt b.W b.t g.a g.s g.q g.w g.st l K = ap45 K (runF b g l) := by
  rw [f45_def]
  obtain ⟨k, rfl⟩ := succ_of (show 0 < k by omega)
  simp only [f45d, f30_eq (show 1 < k by omega), f36_eq g (show _ < k by omega) (by omega), f45_0_def, f45_2_def, bne_dec, runF]
  by_cases h1 : chkBoard b = 0
  · by_cases h2 : chkGround g = 0
    · by_cases h3 : 2000 < l.length
      · have e3 : decide ((l.length : Int) > 2000) = true := by simp only [decide_eq_true_eq]; omega
        simp [h1, h2, e3, h3, ap45, z0, zB, zG]
      · have e3 : decide ((l.length : Int) > 2000) = false := by simp only [decide_eq_false_iff_not]; omega
        simp only [h1, h2, decide_true, Bool.not_true, cond_false, e3, ne_eq, not_true_eq_false, if_false, h3]
        have e := fun x0 => rooms_loop k (by omega) K x0 l hl b.n b.w b.L b.Rt b.W b.t g.a g.s g.q g.w g.st 0 0 false false false 0 0 0 0 false l.length k 0 (by omega) (by omega)
        refine (e _).trans ?_
        rw [List.drop_zero]
        cases ha : l.any badRoom
        · simp only [Bool.false_eq_true, if_false]
          have H : SOk ⟨b, g, []⟩ := ⟨h1, chkGround_ok h2⟩
          refine (ref_loop k (by omega) K _ l (by omega) ha 0 0 false false false 0 0 0 0 false l.length k 0 (x := ⟨b, g, []⟩) (by omega) (by omega) H (by simp)).trans ?_
          rw [List.drop_zero]
          by_cases hr : (runS l ⟨b, g, []⟩).1 = 0
          · rw [if_neg (by simpa using hr), if_neg (by simpa using hr)]
            simp only [ap2, ap45, hr]
          · rw [if_pos hr, if_pos hr]
        · simp
    · simp [h1, h2, ap45, z0, zB, zG]
  · simp [h1, ap45, z0, zB, zG]
theorem z0_small : Small z0.g ∧ z0.o.length ≤ 3000 ∧ ∀ b ∈ z0.o, b.length ≤ 200 := ⟨zG_small, by simp [z0], fun b h => by simp [z0] at h⟩
theorem beatS_o {e : Be} {x : Sta} (H : SOk x) (h : ∀ b ∈ x.o, b.length ≤ 200) : ∀ b ∈ (beatS e x).2.o, b.length ≤ 200 := by
  obtain ⟨n1, n2⟩ := nextS_ok H.g
  have hs : ∀ b ∈ (sendS e x).2.o, b.length ≤ 200 := by
    unfold sendS
    split
    · split
      · rename_i h2
        split
        · exact h
        · simp only
          split
          · intro b hb
            rcases List.mem_append.1 hb with hb | hb
            · exact h b hb
            · rw [List.mem_singleton.1 hb]; exact (n2 h2.1).2.2.2
          · exact h
      · exact h
    · exact h
  unfold beatS
  split
  · exact hs
  · exact hs
theorem runS_o : ∀ (l : List Be) {x : Sta}, SOk x → (∀ b ∈ x.o, b.length ≤ 200) → ∀ b ∈ (runS l x).2.o, b.length ≤ 200
  | [], x, H, h => h
  | e :: l, x, H, h => by
    simp only [runS]
    split
    · exact beatS_o H h
    · rename_i h1
      exact runS_o l (beatS_ok H (Decidable.not_not.1 h1)).1 (beatS_o H h)
theorem runF_small (b : Bd) (g : Gd) (l : List Be) : Small (runF b g l).2.g ∧ (runF b g l).2.o.length ≤ 3000 ∧ ∀ b' ∈ (runF b g l).2.o, b'.length ≤ 200 := by
  unfold runF
  split
  · exact z0_small
  · rename_i h1
    split
    · exact z0_small
    · rename_i h2
      split
      · exact z0_small
      · rename_i h3
        split
        · exact z0_small
        · split
          · exact z0_small
          · rename_i h5
            have H : SOk ⟨b, g, []⟩ := ⟨Decidable.not_not.1 h1, chkGround_ok (Decidable.not_not.1 h2)⟩
            obtain ⟨q, ql⟩ := runS_ok l H (Decidable.not_not.1 h5)
            exact ⟨q.g.small, by simp at ql; omega, runS_o l H (fun b h => by simp at h)⟩
theorem f9_eq {k : Nat} (b : Bd) (g : Gd) (l : List Be) (hk : g.q.length + l.length + 6000 < k) (hl : l.length < 4611686018427387904) (hq : g.q.length ≤ 5864062014805) (hb : ∀ b ∈ g.q, b.length ≤ 140737488355328) (K : Bool → Option R) :
    f9 k b.n b.w b.L b.Rt b.W b.t g.a g.s g.q g.w g.st l K = K true := by
  rw [f9_def]
  obtain ⟨k, rfl⟩ := succ_of (show 0 < k by omega)
  obtain ⟨s1, s2, s3⟩ := runF_small b g l
  simp only [f9d, f44_eq b g l (show _ < k by omega) hl hq hb, f45_eq b g l (show _ < k by omega) hl (by omega), ap44, ap45, BEq.rfl, cond_true, Bool.and_self, Bool.and_true]
  rw [f37_same _ (by have := s1.1; omega) (by have := s1.1; omega) (fun b h => by have := s1.2 b h; exact ⟨by omega, by omega⟩)]
  simp only [BEq.rfl, cond_true]
  rw [f46_eq _ (by omega) (by omega) (fun b h => by have := s3 b h; exact ⟨by omega, by omega⟩)]
  simp only [decide_true, BEq.rfl, cond_true, f21_eq (show 6 < k by omega)]
end Go.Proofs.Ytadkplikobhckaa.PM

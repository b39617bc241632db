/- Plain laws of senders: the reference's letter, ticks. -/
import Derived.Test.YtlcklflbhhnnhaaPlSend
set_option linter.unusedSimpArgs false
set_option linter.unusedVariables false
namespace Go.Proofs.Ytlcklflbhhnnhaa.PM
open Go Go.Proofs.Ytlcklflbhhnnhaa.Bt
variable {R : Type}

def apLS (K : Int → Int → ByteArray → Int → Int → Int → Bool → Int → Int → ByteArray → List Int → Int → List Rg → Int → Int → List Int → Option R) (x : Sd × Lt) : Option R :=
  K x.2.1 x.2.2.1 x.2.2.2.1 x.2.2.2.2.1 x.2.2.2.2.2.1 x.2.2.2.2.2.2.1 x.2.2.2.2.2.2.2.2.2.1 x.1.st x.1.id x.1.nm x.1.dat x.1.nx x.1.hs x.1.wt x.1.tr x.2.2.2.2.2.2.2.1
/-! a run of letters -/
def runS (seg wait : Int) : Nat → Sd → List Lt → Sd × List Lt
  | 0, s, o => (s, o)
  | d + 1, s, o => if s.st = 1 then runS seg wait d (oneS seg wait s).1 (o ++ [(oneS seg wait s).2]) else (s, o)
theorem oneS_eta (seg wait : Int) (s : Sd) : ((oneS seg wait s).2.1, ((oneS seg wait s).2.2.1, ((oneS seg wait s).2.2.2.1, ((oneS seg wait s).2.2.2.2.1, ((oneS seg wait s).2.2.2.2.2.1, ((oneS seg wait s).2.2.2.2.2.2.1, ((oneS seg wait s).2.2.2.2.2.2.2.1, (([] : List Rg), ((oneS seg wait s).2.2.2.2.2.2.2.2.2.1, ()))))))))) = (oneS seg wait s).2 := by
  unfold oneS
  split
  · rfl
  · split
    · rfl
    · split
      · rfl
      · split <;> rfl
theorem oneS_dat (seg wait : Int) (s : Sd) : (oneS seg wait s).1.dat = s.dat := by
  unfold oneS
  split
  · rfl
  · split
    · rfl
    · split
      · rfl
      · split <;> rfl
def apSO (K : Int → Int → ByteArray → List Int → Int → List Rg → Int → Int → List Lt → Option R) (x : Sd × List Lt) : Option R := K x.1.st x.1.id x.1.nm x.1.dat x.1.nx x.1.hs x.1.wt x.1.tr x.2
theorem f79_loop (k : Nat) (x0 : Int → Int → ByteArray → List Int → Int → List Rg → Int → Int → List Lt → Option R) (seg x2 wait x5 : Int) (rate : Nat) (hr : rate ≤ 100) (hg : 1 ≤ seg ∧ seg ≤ 4096) (y0 y1 : Int) (y2 : ByteArray) (y3 y4 y5 : Int) :
    ∀ (d f : Nat) (s : Sd) (o : List Lt), o.length + d = rate → d < f → SInv s → s.dat.length + 10 < k →
    f79_0d k x0 seg x2 (rate : Int) wait x5 y0 y1 y2 y3 y4 y5 f s.st s.id s.nm s.dat s.nx s.hs s.wt s.tr o = apSO x0 (runS seg wait d s o) := by
  intro d
  induction d with
  | zero =>
    intro f s o ho hf hi hk
    obtain ⟨f, rfl⟩ := succ_of hf
    have h1 : decide ((o.length : Int) < (rate : Int)) = false := by simp only [decide_eq_false_iff_not]; omega
    simp only [f79_0d, f79_0b, h1]
    rfl
  | succ d ih =>
    intro f s o ho hf hi hk
    obtain ⟨f, rfl⟩ := succ_of hf
    have h1 : decide ((o.length : Int) < (rate : Int)) = true := by simp only [decide_eq_true_eq]; omega
    simp only [f79_0d, f79_0b, h1, beq_self_eq_true, cond_true, beq_dec, runS]
    by_cases e : s.st = 1
    · have hL := LIM112
      have h2 : decide (o.length + ([(oneS seg wait s).2] : List Lt).length ≤ LIM 112) = true := by simp only [decide_eq_true_eq, List.length_singleton]; omega
      simp only [e, decide_true, cond_true, if_true]
      rw [← e, f108_eq seg x2 (rate : Int) wait x5 s hg hi hk]
      simp only [apSL, oneS_eta]
      simp only [h2, cond_true]
      exact ih f (oneS seg wait s).1 _ (by simp; omega) (by omega) (oneS_inv hg.1 hi) (by rw [oneS_dat]; exact hk)
    · simp only [e, decide_false, cond_false, if_false]
      rfl
/-! a tick of a sender -/
def stopL (s : Sd) : Lt := (6, (s.id, (⟨#[]⟩, (0, (0, (0, ([], ([], (false, ())))))))))
def tickS (seg : Int) (rate : Nat) (wait most : Int) (s : Sd) : Sd × List Lt :=
  if s.st = 2 then (if s.wt - 1 > 0 then ({ s with wt := s.wt - 1 }, []) else if s.tr ≥ most then ({ s with st := 4, wt := s.wt - 1 }, [stopL s]) else ({ s with wt := wait, tr := s.tr + 1 }, [endL s]))
  else runS seg wait rate s []
theorem f79_eq {k : Nat} (seg x2 wait most : Int) (rate : Nat) (s : Sd) (hr : rate ≤ 100) (hg : 1 ≤ seg ∧ seg ≤ 4096) (hi : SInv s) (hw : 0 ≤ s.wt ∧ s.wt ≤ 1000000) (ht : 0 ≤ s.tr ∧ s.tr ≤ 50) (hk : s.dat.length + rate + 20 < k)
    (K : Int → Int → ByteArray → List Int → Int → List Rg → Int → Int → List Lt → Option R) :
    f79 k seg x2 (rate : Int) wait most s.st s.id s.nm s.dat s.nx s.hs s.wt s.tr K = apSO K (tickS seg rate wait most s) := by
  rw [f79_def]
  obtain ⟨k, rfl⟩ := succ_of hk
  simp only [f79d, f107_eq (show s.dat.length + 3 < k by omega) hi.len hi.u8, beq_dec, tickS]
  rw [wi (n := s.wt - 1) (by omega) (by omega), wi (n := s.tr + 1) (by omega) (by omega)]
  by_cases e : s.st = 2
  · by_cases e1 : s.wt - 1 > 0
    · simp only [e, e1, decide_true, cond_true, if_true]; simp only [apSO, e]
    · by_cases e2 : s.tr ≥ most
      · simp only [e, e1, e2, decide_true, decide_false, cond_true, cond_false, if_true, if_false]; simp only [apSO, stopL]
      · simp only [e, e1, e2, decide_true, decide_false, cond_true, cond_false, if_true, if_false]; simp only [apSO, endL, e]
  · simp only [e, decide_false, cond_false, if_false, f79_0_def]
    exact f79_loop k _ seg x2 wait most rate hr hg 0 0 ⟨#[]⟩ 0 0 0 rate k s [] (by simp) (by omega) hi (by omega)
noncomputable def stepS (a b c d e : Int) (s : Sd) : (Sd × List Lt) × Int :=
  if chkFig a b c d e ≠ 0 then ((zS, []), chkFig a b c d e) else if chkSend s ≠ 0 then ((zS, []), chkSend s) else (tickS a c.toNat d e s, 0)
theorem chkFig_ok {a b c d e : Int} (h : chkFig a b c d e = 0) : (1 ≤ a ∧ a ≤ 4096) ∧ (1 ≤ c ∧ c ≤ 100) := by
  unfold chkFig at h
  split at h
  · rename_i h'
    simp only [Bool.and_eq_true, inB_iff] at h'
    exact ⟨h'.1.1.1.1, h'.1.1.2⟩
  · cases h
theorem chkSend_ok {s : Sd} (h : chkSend s = 0) (hu : U8 s.dat) : SInv s ∧ (0 ≤ s.wt ∧ s.wt ≤ 1000000) ∧ (0 ≤ s.tr ∧ s.tr ≤ 50) := by
  unfold chkSend at h
  by_cases h1 : chkFile s.id s.nm s.dat.length = 0
  · cases h2 : inB s.st 1 4
    · simp [h1, h2] at h
    · cases h3 : inB s.nx (-1) s.dat.length
      · simp [h1, h2, h3] at h
      · cases h4 : inB s.wt 0 1000000
        · simp [h1, h2, h3, h4] at h
        · cases h5 : inB s.tr 0 50
          · simp [h1, h2, h3, h4, h5] at h
          · by_cases h6 : chkRgs (cutF s.hs) s.dat.length = 0
            · obtain ⟨_, q1, q2⟩ := chkRgs_ok h6
              have q3 := chkFile_ok h1
              obtain ⟨n1, n2⟩ := inB_iff.1 h3
              refine ⟨⟨by omega, hu, n1, n2, ?_, q2⟩, inB_iff.1 h4, inB_iff.1 h5⟩
              have : s.hs.length ≤ (cutF s.hs).length + 1 := by
                unfold cutF
                cases headF s.hs <;> simp <;> omega
              omega
            · simp [h1, h2, h3, h4, h5, h6] at h
  · simp [h1] at h
def apSF (K : Int → Int → ByteArray → List Int → Int → List Rg → Int → Int → Int → List Lt → Option R) (x : (Sd × List Lt) × Int) : Option R :=
  K x.1.1.st x.1.1.id x.1.1.nm x.1.1.dat x.1.1.nx x.1.1.hs x.1.1.wt x.1.1.tr x.2 x.1.2
theorem f80_eq {k : Nat} (s : Sd) (hk : 2 < k) (h1 : s.dat.length ≤ 1000000000) (h2 : s.hs.length ≤ 1000000000) (K : Int → Int → ByteArray → Int → Int → Int → List Int → List Rg → Option R) :
    f80 k s.st s.id s.nm s.dat s.nx s.hs s.wt s.tr K = K s.st s.id s.nm s.nx s.wt s.tr s.dat s.hs := by
  rw [f80_def]
  obtain ⟨k, rfl⟩ := succ_of hk
  simp only [f80d, f77_eq (show 0 < k by omega) h1, f109_eq (show 0 < k by omega) h2]
theorem f27_eq {k : Nat} (a b c d e : Int) (s : Sd) (hu : U8 s.dat) (hs : s.nm.size < 4611686018427387904) (hk : s.nm.size + s.hs.length + 100200 < k)
    (K : Int → Int → ByteArray → List Int → Int → List Rg → Int → Int → Int → List Lt → Option R) :
    f27 k a b c d e s.st s.id s.nm s.dat s.nx s.hs s.wt s.tr K = apSF K (stepS a b c d e s) := by
  rw [f27_def]
  obtain ⟨k, rfl⟩ := succ_of hk
  simp only [f27d, f22_eq (show 1 < k by omega), f30_eq s (show s.nm.size + s.hs.length + 8 < k by omega) hs, bne_dec, stepS]
  by_cases h1 : chkFig a b c d e = 0
  · by_cases h2 : chkSend s = 0
    · obtain ⟨q1, q2⟩ := chkFig_ok h1
      obtain ⟨g1, g2, g3⟩ := chkSend_ok h2 hu
      have g4 := g1.len
      have g5 := g1.hsl
      have hc : c = ((c.toNat : Nat) : Int) := by omega
      simp only [h1, h2, decide_true, Bool.not_true, cond_false, ne_eq, not_true_eq_false, if_false, f80_eq s (show 2 < k by omega) (by omega) (by omega)]
      have := f79_eq (k := k) a b d e c.toNat s (by omega) q1 g1 g2 g3 (by omega) (fun x0 x1 x2 x3 x4 x5 x6 x7 x8 => K x0 x1 x2 x3 x4 x5 x6 x7 0 x8)
      rw [← hc] at this
      exact this
    · simp only [h1, h2, decide_true, decide_false, Bool.not_true, Bool.not_false, cond_false, cond_true, ne_eq, not_true_eq_false, not_false_eq_true, if_false, if_true, apSF, zS]
  · simp only [h1, decide_false, Bool.not_false, cond_true, ne_eq, not_false_eq_true, if_true, apSF, zS]
/-! comparing equals -/
theorem f51_refl {k : Nat} (hk : 0 < k) (l : List Int) (K : Bool → Option R) : f51 k l l K = K true := by
  rw [f51_def]
  obtain ⟨k, rfl⟩ := succ_of hk
  simp only [f51d, beq_self_eq_true]
theorem f40_loop (k : Nat) (K : Bool → Option R) (x0 : Option R) (l : List Rg) (hl : l.length < 4611686018427387904) : ∀ (d f i : Nat), i + d = l.length → d < f →
    f40_0d k K x0 l l (l.length : Int) f (i : Int) = x0
  | d, 0, i, _, h => absurd h (Nat.not_lt_zero _)
  | 0, f + 1, i, hi, _ => by
    have h1 : decide ((i : Int) < (l.length : Int)) = false := by simp only [decide_eq_false_iff_not]; omega
    simp only [f40_0d, f40_0b, h1, cond_false]
  | d + 1, f + 1, i, hi, hf => by
    have h1 : decide ((i : Int) < (l.length : Int)) = true := by simp only [decide_eq_true_eq]; omega
    have h0 : decide ((0 : Int) ≤ (i : Int)) = true := by simp
    have hw : IntKind.i64.wrap ((i : Int) + 1) = ((i + 1 : Nat) : Int) := by rw [wi (by omega) (by omega)]; omega
    simp only [f40_0d, f40_0b, h1, h0, cond_true, Bool.and_self, hw, beq_self_eq_true, Bool.not_true, cond_false]
    exact f40_loop k K x0 l hl d f (i + 1) (by omega) (by omega)
theorem f40_refl {k : Nat} {l : List Rg} (hk : l.length + 1 < k) (hl : l.length < 4611686018427387904) (K : Bool → Option R) : f40 k l l K = K true := by
  rw [f40_def]
  obtain ⟨k, rfl⟩ := succ_of hk
  have : ((l.length : Int) != (l.length : Int)) = false := by rw [bne_dec]; simp
  simp only [f40d, f40_0_def, this, cond_false]
  exact f40_loop k K _ l hl l.length k 0 (by omega) (by omega)
theorem f29_refl {k : Nat} (s : Sd) (hk : s.hs.length + 3 < k) (hl : s.hs.length < 4611686018427387904) (K : Bool → Option R) :
    f29 k s.st s.id s.nm s.dat s.nx s.hs s.wt s.tr s.st s.id s.nm s.dat s.nx s.hs s.wt s.tr K = K true := by
  rw [f29_def]
  obtain ⟨k, rfl⟩ := succ_of hk
  simp only [f29d, f51_refl (show 0 < k by omega), f40_refl (show s.hs.length + 1 < k by omega) hl, beq_self_eq_true, cond_true]
/-! what a tick leaves -/
theorem oneS_none (seg wait : Int) (s : Sd) : (oneS seg wait s).2.2.2.2.2.2.2.2.1 = [] := by rw [← oneS_eta]
theorem runS_inv (seg wait : Int) (hg : 1 ≤ seg) : ∀ (d : Nat) (s : Sd) (o : List Lt), SInv s → (∀ x ∈ o, x.2.2.2.2.2.2.2.1 = []) → SInv (runS seg wait d s o).1 ∧ (∀ x ∈ (runS seg wait d s o).2, x.2.2.2.2.2.2.2.1 = []) ∧ (runS seg wait d s o).2.length ≤ o.length + d
  | 0, s, o, hi, ho => ⟨hi, ho, Nat.le_refl _⟩
  | d + 1, s, o, hi, ho => by
    simp only [runS]
    split
    · obtain ⟨a, b, c⟩ := runS_inv seg wait hg d (oneS seg wait s).1 (o ++ [(oneS seg wait s).2]) (oneS_inv hg hi) (fun x hx => by
        rcases List.mem_append.1 hx with hx | hx
        · exact ho x hx
        · rw [List.mem_singleton.1 hx]; exact oneS_none seg wait s)
      refine ⟨a, b, ?_⟩
      simp only [List.length_append, List.length_singleton] at c
      omega
    · exact ⟨hi, ho, by simp⟩
theorem stepS_ok (a b c d e : Int) (s : Sd) (hu : U8 s.dat) : (stepS a b c d e s).1.1.hs.length ≤ 2001 ∧ (∀ x ∈ (stepS a b c d e s).1.2, x.2.2.2.2.2.2.2.1 = []) ∧ (stepS a b c d e s).1.2.length ≤ 101 := by
  by_cases h1 : chkFig a b c d e = 0
  · by_cases h2 : chkSend s = 0
    · obtain ⟨q1, q2⟩ := chkFig_ok h1
      obtain ⟨g1, g2, g3⟩ := chkSend_ok h2 hu
      have g5 := g1.hsl
      have hv : stepS a b c d e s = (tickS a c.toNat d e s, 0) := by simp [stepS, h1, h2]
      rw [hv]
      show (tickS a c.toNat d e s).1.hs.length ≤ 2001 ∧ (∀ x ∈ (tickS a c.toNat d e s).2, x.2.2.2.2.2.2.2.1 = []) ∧ (tickS a c.toNat d e s).2.length ≤ 101
      unfold tickS
      split
      · split
        · exact ⟨g5, by simp, by simp⟩
        · split
          · exact ⟨g5, by simp [stopL], by simp⟩
          · exact ⟨g5, by simp [endL], by simp⟩
      · obtain ⟨u, v, w⟩ := runS_inv a d q1.1 c.toNat s [] g1 (by simp)
        exact ⟨u.hsl, v, by simp only [List.length_nil] at w; omega⟩
    · have hv : stepS a b c d e s = ((zS, []), chkSend s) := by simp [stepS, h1, h2]
      rw [hv]; exact ⟨by simp [zS], by simp, by simp⟩
  · have hv : stepS a b c d e s = ((zS, []), chkFig a b c d e) := by simp [stepS, h1]
    rw [hv]; exact ⟨by simp [zS], by simp, by simp⟩
theorem beginF_hs (id : Int) (nm : ByteArray) (l : List Int) : (beginF id nm l).1.hs = [] := by unfold beginF; split <;> rfl
end Go.Proofs.Ytlcklflbhhnnhaa.PM

/- Plain laws of receivers: ticks. -/
import Derived.Test.YtlcklflbhhnnhaaPlRecv2
set_option linter.unusedSimpArgs false
set_option linter.unusedVariables false
namespace Go.Proofs.Ytlcklflbhhnnhaa.PM
open Go Go.Proofs.Ytlcklflbhhnnhaa.Bt
variable {R : Type}

theorem f132_eq {k : Nat} (hk : 0 < k) {n : Int} (h0 : 0 ≤ n) (h1 : n ≤ 1000000000) (K : List Rg → Option R) : f132 k n K = K [] := by
  rw [f132_def]
  obtain ⟨k, rfl⟩ := succ_of hk
  have hd : decide (n < 0) = false := by simp only [decide_eq_false_iff_not]; omega
  simp only [f132d, f132_1000002_def, f132_1000002d, hd, cond_false, f132_1000005_def, f132_1000005d, Int.sub_zero]
  rw [wi (by omega) (by omega)]
  by_cases h : n > 0
  · have h2 : decide ((List.replicate n.toNat ((0, (0, ())) : Rg)).length ≤ LIM 16) = true := by rw [LIM16]; simp only [decide_eq_true_eq, List.length_replicate]; omega
    have h3 : decide (0 ≤ n) = true := by simp only [decide_eq_true_eq]; omega
    have h4 : decide (0 ≤ ((List.replicate n.toNat ((0, (0, ())) : Rg)).length : Int)) = true := by simp only [decide_eq_true_eq]; omega
    simp only [h, h2, h3, h4, decide_true, cond_true, Bool.and_self, List.take_zero]
  · simp only [h, decide_false, cond_false]
theorem f114_eq {k : Nat} (hk : 5 < k) (a b : List Rg) (ha : a.length ≤ 100000) (hb : b.length ≤ 100000) (K : List Rg → Option R) : f114 k [a, b] K = K (a ++ b) := by
  rw [f114_def]
  obtain ⟨k, rfl⟩ := succ_of hk
  obtain ⟨k, rfl⟩ := succ_of (show 2 < k by omega)
  obtain ⟨k, rfl⟩ := succ_of (show 1 < k by omega)
  obtain ⟨k, rfl⟩ := succ_of (show 0 < k by omega)
  have w0 : IntKind.i64.wrap (0 + (a.length : Int)) = (a.length : Int) := by rw [wi (by omega) (by omega)]; omega
  have w1 : IntKind.i64.wrap ((a.length : Int) + (b.length : Int)) = (a.length : Int) + (b.length : Int) := wi (by omega) (by omega)
  have n0 : decide ((a.length : Int) < 0) = false := by simp only [decide_eq_false_iff_not]; omega
  have n1 : decide ((a.length : Int) + (b.length : Int) < 0) = false := by simp only [decide_eq_false_iff_not]; omega
  have i1 : IntKind.i64.wrap (0 + 1) = 1 := by decide
  have i2 : IntKind.i64.wrap (1 + 1) = 2 := by decide
  have l1 : decide (([] : List Rg).length + a.length ≤ LIM 16) = true := by rw [LIM16]; simp only [decide_eq_true_eq, List.length_nil]; omega
  have l2 : decide (a.length + b.length ≤ LIM 16) = true := by rw [LIM16]; simp only [decide_eq_true_eq]; omega
  simp only [f114d, f114_0_def, f114_2_def, f114_1000007_def, f114_1000007d, f114_0d, f114_0b, f114_2d, f114_2b, List.length_cons, List.length_nil, i1, i2]
  simp only [show decide ((0 : Int) < ((0 + 1 + 1 : Nat) : Int)) = true from by decide, show decide ((1 : Int) < ((0 + 1 + 1 : Nat) : Int)) = true from by decide, show decide ((2 : Int) < ((0 + 1 + 1 : Nat) : Int)) = false from by decide,
    show decide ((0 : Int) ≤ 0) = true from by decide, show decide ((0 : Int) ≤ 1) = true from by decide, Bool.and_self, cond_true, cond_false, Int.toNat_zero, Int.toNat_one, List.getD_cons_zero, List.getD_cons_succ, w0, n0, w1, n1]
  rw [f132_eq (show 0 < k + 1 + 1 + 1 by omega) (by omega) (by omega)]
  simp only [List.nil_append, l1, l2, cond_true, List.length_nil]
  simp only [List.length_nil] at l1
  simp only [l1, cond_true]
theorem f131_eq {k : Nat} (hk : 8 < k) (l : List Rg) (hl : l.length ≤ 100000) (b : Bool) (K : List Rg → Option R) : f131 k l b K = K (bif b then (-1, (0, ())) :: l else l) := by
  rw [f131_def]
  obtain ⟨k, rfl⟩ := succ_of hk
  cases b
  · rfl
  · simp only [f131d, cond_true, f104_def]
    rw [show f104d (R := R) k = fun K => f104d k K from rfl]
    obtain ⟨k, rfl⟩ := succ_of (show 0 < k by omega)
    simp only [f104d]
    rw [f114_eq (show 5 < k + 1 by omega) _ _ (by simp) hl]
    rfl
theorem holes_cut {lim : Int} {l : List Rg} (hs : Srt lim 0 l) (e : Int) : headF (holesF l e) = false := by
  have hb := (lastT_bounds hs).1
  have : ∀ x ∈ holesF l e, 0 ≤ x.1 := by
    intro x hx
    unfold holesF at hx
    rcases List.mem_append.1 hx with hx | hx
    · exact (preF_rg hs x hx).1
    · split at hx
      · rw [List.mem_singleton] at hx; subst hx; exact hb
      · cases hx
  cases h : holesF l e with
  | nil => rfl
  | cons x r =>
    rw [h] at this
    have := this x (by simp)
    have h1 : ¬ x.1 = -1 := by omega
    simp [headF, h1]
theorem cutF_lack {lim : Int} (r : Rv) (hs : Srt lim 0 r.hv) : cutF (lackF r) = holesF r.hv r.sz := by
  have h := holes_cut hs r.sz
  unfold lackF
  rcases Bool.eq_false_or_eq_true (emp r.nm) with he | he
  · rw [he]; simp [cutF, headF]
  · rw [he]; simp [cutF, h]

/-! a tick of a receiver -/
def holeL (r : Rv) : Lt := (4, (r.id, (⟨#[]⟩, (0, (0, (0, ([], (lackF r, (false, ())))))))))
def stopR (r : Rv) : Lt := (6, (r.id, (⟨#[]⟩, (0, (0, (0, ([], ([], (false, ())))))))))
def tickR (wait most : Int) (r : Rv) : (Rv × List Lt) × Int :=
  if r.st ≠ 2 then ((r, []), 0) else if r.wt - 1 > 0 then (({ r with wt := r.wt - 1 }, []), 0)
  else if r.tr ≥ most then (({ r with st := 4, wt := r.wt - 1 }, [stopR r]), 0)
  else if 2000 < (holesF r.hv r.sz).length then ((zR, []), 2) else (({ r with wt := wait, tr := r.tr + 1 }, [holeL r]), 0)
def apRF (K : Int → Int → ByteArray → List Int → List Rg → Int → Int → Int → Int → Int → List Lt → Option R) (x : (Rv × List Lt) × Int) : Option R :=
  K x.1.1.st x.1.1.id x.1.1.nm x.1.1.dat x.1.1.hv x.1.1.sz x.1.1.sum x.1.1.wt x.1.1.tr x.2 x.1.2
structure RInv (r : Rv) : Prop where
  hl : r.hv.length ≤ 2000
  dl : (r.dat.length : Int) ≤ 100000
  wt : 0 ≤ r.wt ∧ r.wt ≤ 1000000
  tr : 0 ≤ r.tr ∧ r.tr ≤ 50
  sz : -1 ≤ r.sz
  asked : r.st = 2 → r.sz ≠ -1
  srt : ∃ lim, Srt lim 0 r.hv
theorem chkRecv_ok {r : Rv} (h : chkRecv r = 0) : RInv r := by
  unfold chkRecv at h
  by_cases h1 : inB r.id 0 65535 = false
  · simp [h1] at h
  by_cases h2 : inB r.st 0 4 = false
  · simp [h1, h2] at h
  by_cases h3 : emp r.nm = false ∧ nameOk r.nm = false
  · simp [h1, h2, h3] at h
  by_cases h4 : inB r.sz (-1) 100000 = false
  · simp [h1, h2, h3, h4] at h
  by_cases h5 : inB r.sum 0 4294967295 = false
  · simp [h1, h2, h3, h4, h5] at h
  by_cases h6 : inB r.wt 0 1000000 = false
  · simp [h1, h2, h3, h4, h5, h6] at h
  by_cases h7 : inB r.tr 0 50 = false
  · simp [h1, h2, h3, h4, h5, h6, h7] at h
  simp only [h1, h2, h3, h4, h5, h6, h7, if_false] at h
  by_cases h8 : chkRgs r.hv (if r.sz = -1 then 100000 else r.sz) = 0
  · simp only [h8, ne_eq, not_true_eq_false, if_false] at h
    by_cases h9 : formV r = 0
    · simp only [h9, ne_eq, not_true_eq_false, if_false] at h
      obtain ⟨c1, c2, c3⟩ := chkRgs_ok h8
      have hs := chkRgs_srt h8
      have hdl : (r.dat.length : Int) = lastT 0 r.hv := by
        unfold formV at h9
        by_cases q : (r.dat.length : Int) = lastT 0 r.hv
        · exact q
        · simp [q] at h9
      have := (lastT_bounds hs).2 c1.1
      refine ⟨c2, by omega, inB_iff.1 (by simpa using h6), inB_iff.1 (by simpa using h7), (inB_iff.1 (show inB r.sz (-1) 100000 = true by simpa using h4)).1, ?_, ⟨_, hs⟩⟩
      intro e1 e2
      simp [e1, e2, stB] at h
    · simp [h9] at h
  · simp [h8] at h
theorem f112_eq {k : Nat} (r : Rv) (hl : r.hv.length ≤ 2000) (hk : r.hv.length + 20 < k) (K : List Rg → Int → Option R) :
    f112 k r.st r.id r.nm r.dat r.hv r.sz r.sum r.wt r.tr K = if 2000 < (holesF r.hv r.sz).length then K [] 2 else K (lackF r) 0 := by
  rw [f112_def]
  obtain ⟨k, rfl⟩ := succ_of hk
  have hh := holesF_len r.hv r.sz
  have es : (r.nm.toList == (⟨#[]⟩ : ByteArray).toList) = emp r.nm := rfl
  have hd : decide (((holesF r.hv r.sz).length : Int) > 2000) = decide (2000 < (holesF r.hv r.sz).length) := by rw [Bool.eq_iff_iff]; simp only [decide_eq_true_eq]; omega
  simp only [f112d, f95_eq r (show r.hv.length ≤ 1000000 by omega) (show r.hv.length + 4 < k by omega), hd, es, f131_eq (show 8 < k by omega) (holesF r.hv r.sz) (by omega), lackF]
  by_cases h : 2000 < (holesF r.hv r.sz).length <;> simp [h]
theorem f82_eq {k : Nat} (a b c wait most : Int) (r : Rv) (hi : RInv r) (hk : 2100 < k) (K : Int → Int → ByteArray → List Int → List Rg → Int → Int → Int → Int → Int → List Lt → Option R) :
    f82 k a b c wait most r.st r.id r.nm r.dat r.hv r.sz r.sum r.wt r.tr K = apRF K (tickR wait most r) := by
  rw [f82_def]
  obtain ⟨k, rfl⟩ := succ_of hk
  have hl := hi.hl
  obtain ⟨w0, w1⟩ := hi.wt
  obtain ⟨t0, t1⟩ := hi.tr
  simp only [f82d, bne_dec, tickR]
  rw [wi (n := r.wt - 1) (by omega) (by omega), wi (n := r.tr + 1) (by omega) (by omega)]
  by_cases e : r.st = 2
  · by_cases e1 : r.wt - 1 > 0
    · simp only [e, e1, decide_true, Bool.not_true, cond_false, cond_true, ne_eq, not_true_eq_false, if_true, if_false]; simp only [apRF, e]
    · by_cases e2 : r.tr ≥ most
      · simp only [e, e1, e2, decide_true, decide_false, Bool.not_true, cond_false, cond_true, ne_eq, not_true_eq_false, if_true, if_false]; simp only [apRF, stopR]
      · simp only [e, e1, e2, decide_true, decide_false, Bool.not_true, cond_false, ne_eq, not_true_eq_false, if_false]
        have h112 := f112_eq (R := R) (k := k) ⟨2, r.id, r.nm, r.dat, r.hv, r.sz, r.sum, r.wt - 1, r.tr⟩ hl (by show r.hv.length + 20 < k; omega)
        simp only at h112
        rw [h112]
        have hq : lackF ⟨2, r.id, r.nm, r.dat, r.hv, r.sz, r.sum, r.wt - 1, r.tr⟩ = lackF r := rfl
        by_cases e3 : 2000 < (holesF r.hv r.sz).length
        · simp [e3, apRF, zR]
        · simp [e3, apRF, holeL, hq, e]
  · simp [e, apRF]
theorem f85_eq {k : Nat} (a b c wait most : Int) (r : Rv) (hi : RInv r) (hk : 2100 < k) (K : Int → Int → ByteArray → List Int → List Rg → Int → Int → Int → Int → Int → List Lt → Option R) :
    f85 k a b c wait most r.st r.id r.nm r.dat r.hv r.sz r.sum r.wt r.tr K = apRF K (tickR wait most r) := by
  rw [f85_def]
  obtain ⟨k, rfl⟩ := succ_of hk
  have hl := hi.hl
  obtain ⟨w0, w1⟩ := hi.wt
  obtain ⟨t0, t1⟩ := hi.tr
  obtain ⟨lim, hs⟩ := hi.srt
  simp only [f85d, bne_dec, tickR]
  rw [wi (n := r.wt - 1) (by omega) (by omega), wi (n := r.tr + 1) (by omega) (by omega)]
  by_cases e : r.st = 2
  · have hsz := hi.asked e
    by_cases e1 : r.wt - 1 > 0
    · simp only [e, e1, decide_true, Bool.not_true, cond_false, cond_true, ne_eq, not_true_eq_false, if_true, if_false]; simp only [apRF, e]
    · by_cases e2 : r.tr ≥ most
      · simp only [e, e1, e2, decide_true, decide_false, Bool.not_true, cond_false, cond_true, ne_eq, not_true_eq_false, if_true, if_false]; simp only [apRF, stopR]
      · simp only [e, e1, e2, decide_true, decide_false, Bool.not_true, cond_false, ne_eq, not_true_eq_false, if_false]
        have h113 := f113_eq (R := R) (k := k) ⟨2, r.id, r.nm, r.dat, r.hv, r.sz, r.sum, r.wt - 1, r.tr⟩ (by show r.hv.length ≤ 1000000; omega) (by show r.hv.length + 4 < k; omega) hi.sz
        have hq : lackF ⟨2, r.id, r.nm, r.dat, r.hv, r.sz, r.sum, r.wt - 1, r.tr⟩ = lackF r := rfl
        simp only [hq] at h113
        rw [h113]
        have hd : decide (((holesF r.hv r.sz).length : Int) > 2000) = decide (2000 < (holesF r.hv r.sz).length) := by rw [Bool.eq_iff_iff]; simp only [decide_eq_true_eq]; omega
        simp only [hsz, decide_false, cond_false, f75_eq (show 1 < k by omega), cutF_lack r hs, hd]
        by_cases e3 : 2000 < (holesF r.hv r.sz).length
        · simp [e3, apRF, zR]
        · simp [e3, apRF, holeL, e]
  · simp [e, apRF]
noncomputable def stepR (a b c d e : Int) (r : Rv) : (Rv × List Lt) × Int :=
  if chkFig a b c d e ≠ 0 then ((zR, []), chkFig a b c d e) else if chkRecv r ≠ 0 then ((zR, []), chkRecv r) else tickR d e r
theorem f83_eq {k : Nat} (r : Rv) (hk : 2 < k) (h1 : r.dat.length ≤ 1000000000) (h2 : r.hv.length ≤ 1000000000) (K : Int → Int → ByteArray → Int → Int → Int → Int → List Int → List Rg → Option R) :
    f83 k r.st r.id r.nm r.dat r.hv r.sz r.sum r.wt r.tr K = K r.st r.id r.nm r.sz r.sum r.wt r.tr r.dat r.hv := by
  rw [f83_def]
  obtain ⟨k, rfl⟩ := succ_of hk
  simp only [f83d, f77_eq (show 0 < k by omega) h1, f109_eq (show 0 < k by omega) h2]
theorem f34_eq {k : Nat} (a b c d e : Int) (r : Rv) (hn : r.nm.size < 4611686018427387904) (hk : r.nm.size + r.hv.length + 110000 < k)
    (K : Int → Int → ByteArray → List Int → List Rg → Int → Int → Int → Int → Int → List Lt → Option R) :
    f34 k a b c d e r.st r.id r.nm r.dat r.hv r.sz r.sum r.wt r.tr K = apRF K (stepR a b c d e r) := by
  rw [f34_def]
  obtain ⟨k, rfl⟩ := succ_of hk
  simp only [f34d, f22_eq (show 1 < k by omega), f56_eq r hn (show r.nm.size + r.hv.length + 100020 < k by omega), bne_dec, stepR]
  by_cases h1 : chkFig a b c d e = 0
  · by_cases h2 : chkRecv r = 0
    · have hi := chkRecv_ok h2
      have g1 := hi.dl
      have g2 := hi.hl
      simp only [h1, h2, decide_true, Bool.not_true, cond_false, ne_eq, not_true_eq_false, if_false, f83_eq r (show 2 < k by omega) (by omega) (by omega)]
      exact f82_eq a b c d e r hi (by omega) _
    · simp [h1, h2, apRF, zR]
  · simp [h1, apRF, zR]
theorem f84_eq {k : Nat} (a b c d e : Int) (r : Rv) (hn : r.nm.size < 4611686018427387904) (hk : r.nm.size + r.hv.length + 100030 < k) (K : Int → Option R) :
    f84 k a b c d e r.st r.id r.nm r.dat r.hv r.sz r.sum r.wt r.tr K = K (if chkFig a b c d e ≠ 0 then chkFig a b c d e else chkRecv r) := by
  rw [f84_def]
  obtain ⟨k, rfl⟩ := succ_of hk
  simp only [f84d, f23_eq (show 1 < k by omega), f57_eq r hn (show r.nm.size + r.hv.length + 100020 < k by omega), bne_dec]
  by_cases h1 : chkFig a b c d e = 0 <;> simp [h1]
theorem f35_eq {k : Nat} (a b c d e : Int) (r : Rv) (hn : r.nm.size < 4611686018427387904) (hk : r.nm.size + r.hv.length + 110000 < k)
    (K : Int → Int → ByteArray → List Int → List Rg → Int → Int → Int → Int → Int → List Lt → Option R) :
    f35 k a b c d e r.st r.id r.nm r.dat r.hv r.sz r.sum r.wt r.tr K = apRF K (stepR a b c d e r) := by
  rw [f35_def]
  obtain ⟨k, rfl⟩ := succ_of hk
  simp only [f35d, f84_eq a b c d e r hn (show r.nm.size + r.hv.length + 100030 < k by omega), bne_dec, stepR]
  by_cases h1 : chkFig a b c d e = 0
  · by_cases h2 : chkRecv r = 0
    · have hi := chkRecv_ok h2
      simp only [h1, h2, decide_true, Bool.not_true, cond_false, ne_eq, not_true_eq_false, if_false]
      exact f85_eq a b c d e r hi (by omega) _
    · simp [h1, h2, apRF, zR]
  · simp [h1, apRF, zR]
noncomputable def anewF (r : Rv) : Rv × Int := if chkRecv r ≠ 0 then (zR, chkRecv r) else ({ r with st := if r.st = 2 then 1 else r.st, wt := 0, tr := 0 }, 0)
theorem f36_eq {k : Nat} (r : Rv) (hn : r.nm.size < 4611686018427387904) (hk : r.nm.size + r.hv.length + 110000 < k) (K : Int → Int → ByteArray → Int → Int → Int → Int → Int → List Int → List Rg → Option R) :
    f36 k r.st r.id r.nm r.dat r.hv r.sz r.sum r.wt r.tr K = K (anewF r).1.st (anewF r).1.id (anewF r).1.nm (anewF r).1.sz (anewF r).1.sum (anewF r).1.wt (anewF r).1.tr (anewF r).2 (anewF r).1.dat (anewF r).1.hv := by
  rw [f36_def]
  obtain ⟨k, rfl⟩ := succ_of hk
  simp only [f36d, f56_eq r hn (show r.nm.size + r.hv.length + 100020 < k by omega), bne_dec, anewF]
  by_cases h2 : chkRecv r = 0
  · have hi := chkRecv_ok h2
    have g1 := hi.dl
    have g2 := hi.hl
    simp only [h2, decide_true, Bool.not_true, cond_false, ne_eq, not_true_eq_false, if_false, f83_eq r (show 2 < k by omega) (by omega) (by omega), f36_1000007_def, f36_1000007d, beq_dec]
    by_cases e : r.st = 2 <;> simp [e]
  · simp [h2, zR]
theorem f37_eq {k : Nat} (r : Rv) (hn : r.nm.size < 4611686018427387904) (hk : r.nm.size + r.hv.length + 110000 < k) (K : Int → Int → ByteArray → List Int → List Rg → Int → Int → Int → Int → Int → Option R) :
    f37 k r.st r.id r.nm r.dat r.hv r.sz r.sum r.wt r.tr K = K (anewF r).1.st (anewF r).1.id (anewF r).1.nm (anewF r).1.dat (anewF r).1.hv (anewF r).1.sz (anewF r).1.sum (anewF r).1.wt (anewF r).1.tr (anewF r).2 := by
  rw [f37_def]
  obtain ⟨k, rfl⟩ := succ_of hk
  simp only [f37d, f57_eq r hn (show r.nm.size + r.hv.length + 100020 < k by omega), bne_dec, anewF]
  by_cases h2 : chkRecv r = 0
  · simp only [h2, decide_true, Bool.not_true, cond_false, ne_eq, not_true_eq_false, if_false, f37_1000006_def, f37_1000006d, beq_dec]
    by_cases e : r.st = 2 <;> simp [e]
  · simp [h2, zR]
theorem f38_refl {k : Nat} (r : Rv) (hk : r.hv.length + 3 < k) (hl : r.hv.length < 4611686018427387904) (K : Bool → Option R) :
    f38 k r.st r.id r.nm r.dat r.hv r.sz r.sum r.wt r.tr r.st r.id r.nm r.dat r.hv r.sz r.sum r.wt r.tr K = K true := by
  rw [f38_def]
  obtain ⟨k, rfl⟩ := succ_of hk
  simp only [f38d, f51_refl (show 0 < k by omega), f40_refl (show r.hv.length + 1 < k by omega) hl, beq_self_eq_true, cond_true]
theorem f32_loop' (k : Nat) (K : Bool → Option R) (x0 : Option R) (l : List Lt) (hl : l.length < 4611686018427387904) (hh : ∀ x ∈ l, x.2.2.2.2.2.2.2.1.length ≤ 3000) (hk : 3010 < k) : ∀ (d f i : Nat), i + d = l.length → d < f →
    f32_0d k K x0 l l (l.length : Int) f (i : Int) = x0
  | d, 0, i, _, h => absurd h (Nat.not_lt_zero _)
  | 0, f + 1, i, hi, _ => by
    have h1 : decide ((i : Int) < (l.length : Int)) = false := by simp only [decide_eq_false_iff_not]; omega
    simp only [f32_0d, f32_0b, h1, cond_false]
  | d + 1, f + 1, i, hi, hf => by
    have h1 : decide ((i : Int) < (l.length : Int)) = true := by simp only [decide_eq_true_eq]; omega
    have h0 : decide ((0 : Int) ≤ (i : Int)) = true := by simp
    have hw : IntKind.i64.wrap ((i : Int) + 1) = ((i + 1 : Nat) : Int) := by rw [wi (by omega) (by omega)]; omega
    have hli : i < l.length := by omega
    have hg : l.getD (Int.toNat (i : Int)) (0, (0, ((⟨#[]⟩ : ByteArray), (0, (0, (0, (([] : List Int), (([] : List Rg), (false, ()))))))))) = l[i] := getD_in hli
    have hx := hh l[i] (List.getElem_mem hli)
    simp only [f32_0d, f32_0b, hg, h1, h0, cond_true, Bool.and_self, hw]
    rw [f33_refl l[i] (by omega) (by omega)]
    simp only [Bool.not_true, cond_false]
    exact f32_loop' k K x0 l hl hh hk d f (i + 1) (by omega) (by omega)
theorem f32_refl' {k : Nat} {l : List Lt} (hk : l.length + 3020 < k) (hl : l.length < 4611686018427387904) (hh : ∀ x ∈ l, x.2.2.2.2.2.2.2.1.length ≤ 3000) (K : Bool → Option R) : f32 k l l K = K true := by
  rw [f32_def]
  obtain ⟨k, rfl⟩ := succ_of hk
  have : ((l.length : Int) != (l.length : Int)) = false := by rw [bne_dec]; simp
  simp only [f32d, f32_0_def, this, cond_false]
  exact f32_loop' k K _ l hl hh (by omega) l.length k 0 (by omega) (by omega)
theorem lackF_len (r : Rv) : (lackF r).length ≤ (holesF r.hv r.sz).length + 1 := by unfold lackF; cases emp r.nm <;> simp
theorem stepR_ok (a b c d e : Int) (r : Rv) : (stepR a b c d e r).1.1.hv.length ≤ 2000 ∧ (∀ x ∈ (stepR a b c d e r).1.2, x.2.2.2.2.2.2.2.1.length ≤ 3000) ∧ (stepR a b c d e r).1.2.length ≤ 1 := by
  by_cases h1 : chkFig a b c d e = 0
  · by_cases h2 : chkRecv r = 0
    · have hl := (chkRecv_ok h2).hl
      have hv : stepR a b c d e r = tickR d e r := by simp [stepR, h1, h2]
      rw [hv]
      unfold tickR
      split
      · exact ⟨hl, by simp, by simp⟩
      · split
        · exact ⟨hl, by simp, by simp⟩
        · split
          · exact ⟨hl, by simp [stopR], by simp⟩
          · split
            · exact ⟨by simp [zR], by simp, by simp⟩
            · refine ⟨hl, ?_, by simp⟩
              intro x hx
              rw [List.mem_singleton] at hx
              subst hx
              have := lackF_len r
              show (lackF r).length ≤ 3000
              omega
    · have hv : stepR a b c d e r = ((zR, []), chkRecv r) := by simp [stepR, h1, h2]
      rw [hv]; exact ⟨by simp [zR], by simp, by simp⟩
  · have hv : stepR a b c d e r = ((zR, []), chkFig a b c d e) := by simp [stepR, h1]
    rw [hv]; exact ⟨by simp [zR], by simp, by simp⟩
theorem anewF_len (r : Rv) : (anewF r).1.hv.length ≤ 2000 := by
  by_cases h2 : chkRecv r = 0
  · have hl := (chkRecv_ok h2).hl
    simpa [anewF, h2] using hl
  · simp [anewF, h2, zR]
theorem f5_eq {k : Nat} (a b c d e : Int) (r : Rv) (hn : r.nm.size < 4611686018427387904) (hk : r.nm.size + r.hv.length + 110010 < k) (K : Bool → Option R) :
    f5 k a b c d e r.st r.id r.nm r.dat r.hv r.sz r.sum r.wt r.tr K = K true := by
  rw [f5_def]
  obtain ⟨k, rfl⟩ := succ_of hk
  obtain ⟨p1, p2, p3⟩ := stepR_ok a b c d e r
  have p4 := anewF_len r
  simp only [f5d, f34_eq a b c d e r hn (show r.nm.size + r.hv.length + 110000 < k by omega), f35_eq a b c d e r hn (show r.nm.size + r.hv.length + 110000 < k by omega), f36_eq r hn (show r.nm.size + r.hv.length + 110000 < k by omega),
    f37_eq r hn (show r.nm.size + r.hv.length + 110000 < k by omega), apRF, f38_refl (stepR a b c d e r).1.1 (show (stepR a b c d e r).1.1.hv.length + 3 < k by omega) (by omega),
    f38_refl (anewF r).1 (show (anewF r).1.hv.length + 3 < k by omega) (by omega), f32_refl' (l := (stepR a b c d e r).1.2) (show (stepR a b c d e r).1.2.length + 3020 < k by omega) (by omega) p2,
    f24_eq (show 20 < k by omega), beq_self_eq_true, cond_true]
end Go.Proofs.Ytlcklflbhhnnhaa.PM

/- Plain laws of receivers: checks and ticks. -/
import Derived.Test.YtlcklflbhhnnhaaPlRecv
set_option linter.unusedSimpArgs false
set_option linter.unusedVariables false
namespace Go.Proofs.Ytlcklflbhhnnhaa.PM
open Go Go.Proofs.Ytlcklflbhhnnhaa.Bt
variable {R : Type}

structure Rv where
  st : Int
  id : Int
  nm : ByteArray
  dat : List Int
  hv : List Rg
  sz : Int
  sum : Int
  wt : Int
  tr : Int
def zR : Rv := ⟨0, 0, ⟨#[]⟩, [], [], 0, 0, 0, 0⟩
theorem lastT_getD : ∀ (a : Int) (l : List Rg), l ≠ [] → lastT a l = (l.getD (l.length - 1) (0, (0, ()))).2.1
  | a, [], h => absurd rfl h
  | a, [x], _ => rfl
  | a, x :: y :: l, _ => by
    have := lastT_getD x.2.1 (y :: l) (by simp)
    simp only [lastT] at this ⊢
    rw [this]
    simp
theorem ends_eq {l : List Rg} (hl : l.length < 4611686018427387904) (h : l ≠ []) : (decide (0 ≤ IntKind.i64.wrap ((l.length : Int) - 1)) && decide (IntKind.i64.wrap ((l.length : Int) - 1) < (l.length : Int))) = true ∧ (l.getD (Int.toNat (IntKind.i64.wrap ((l.length : Int) - 1))) (0, (0, ()))).2.1 = lastT 0 l := by
  have hp : 0 < l.length := List.length_pos_iff.2 h
  have hw : IntKind.i64.wrap ((l.length : Int) - 1) = ((l.length - 1 : Nat) : Int) := by rw [wi (by omega) (by omega)]; omega
  rw [hw, lastT_getD 0 l h, Int.toNat_natCast]
  exact ⟨by simp only [Bool.and_eq_true, decide_eq_true_eq]; omega, rfl⟩
theorem f96_eq {k : Nat} {l : List Rg} (hk : 0 < k) (hl : l.length < 4611686018427387904) (K : Int → Option R) : f96 k l K = K (lastT 0 l) := by
  rw [f96_def]
  obtain ⟨k, rfl⟩ := succ_of hk
  simp only [f96d, beq_dec, leneq]
  by_cases h : l = []
  · subst h; rfl
  · obtain ⟨h1, h2⟩ := ends_eq hl h
    have h3 : l.length ≠ 0 := by simp [h]
    simp only [h1, h2, h3, decide_false, cond_false, cond_true]
def stB (q2 w0 s1 q0 e l0 t0 h0 : Bool) : Bool := (q2 && (w0 || s1)) || (!q2 && !w0) || (q0 && !(e && l0 && s1 && t0)) || (q2 && !e && h0)
def formV (r : Rv) : Int := if (r.dat.length : Int) ≠ lastT 0 r.hv then 3 else if badF r.hv r.dat 0 = true then 3 else if r.sz = -1 ∧ (r.sum ≠ 0 ∨ emp r.nm = false) then 3 else 0
noncomputable def chkRecv (r : Rv) : Int :=
  if inB r.id 0 65535 = false then 1 else if inB r.st 0 4 = false then 4 else if emp r.nm = false ∧ nameOk r.nm = false then 5
  else if inB r.sz (-1) 100000 = false then 1 else if inB r.sum 0 4294967295 = false then 1 else if inB r.wt 0 1000000 = false then 1 else if inB r.tr 0 50 = false then 1
  else if chkRgs r.hv (if r.sz = -1 then 100000 else r.sz) ≠ 0 then chkRgs r.hv (if r.sz = -1 then 100000 else r.sz)
  else if formV r ≠ 0 then formV r
  else if stB (decide (r.st = 2)) (decide (r.wt = 0)) (decide (r.sz = -1)) (decide (r.st = 0)) (emp r.nm) (decide (r.dat.length = 0)) (decide (r.tr = 0)) (decide ((holesF r.hv r.sz).length = 0)) = true then 11 else 0
theorem f94_eq {k : Nat} (r : Rv) {lim : Int} (hs : Srt lim 0 r.hv) (hlim : 0 ≤ lim ∧ lim ≤ 100000) (hl : r.hv.length ≤ 2000) (hk : r.hv.length + 100010 < k) (K : Int → Option R) :
    f94 k r.st r.id r.nm r.dat r.hv r.sz r.sum r.wt r.tr K = K (formV r) := by
  rw [f94_def]
  obtain ⟨k, rfl⟩ := succ_of hk
  have he : ∀ xN : Int → Option R, f94_1000004 k xN 0 (r.hv.length : Int) (decide ((r.hv.length : Int) > 0)) r.st r.id r.nm r.dat r.hv r.sz r.sum r.wt r.tr = xN (lastT 0 r.hv) := by
    intro xN
    simp only [f94_1000004_def, f94_1000004d, lenpos]
    by_cases h : r.hv = []
    · rw [h]; rfl
    · obtain ⟨h1, h2⟩ := ends_eq (by omega) h
      have h3 : r.hv.length ≠ 0 := by simp [h]
      simp only [h1, h2, h3, decide_false, Bool.not_false, cond_true]
  obtain ⟨b1, b2⟩ := lastT_bounds hs
  have b3 := b2 hlim.1
  have hpl := preF_len 0 r.hv
  simp only [f94d, he, bne_dec, formV]
  by_cases h : (r.dat.length : Int) = lastT 0 r.hv
  · simp only [h, decide_true, Bool.not_true, cond_false, ne_eq, not_true_eq_false, if_false, f87_eq (show r.hv.length + 2 < k by omega) (show r.hv.length ≤ 1000000 by omega), holesF_last, f94_0_def]
    refine (f94_loop k K _ (preF 0 r.hv) r.st r.id r.nm r.dat r.hv r.sz r.sum r.wt r.tr (by omega) (by omega) (fun x hx => by
      obtain ⟨q1, q2, q3⟩ := preF_rg hs x hx
      exact ⟨q1, q2, by omega⟩) (by omega) (preF 0 r.hv).length k 0 (by omega) (by omega)).trans ?_
    rw [List.drop_zero, holes_bad hs h]
    have es : (r.nm.toList == (⟨#[]⟩ : ByteArray).toList) = emp r.nm := rfl
    rw [es]
    cases badF r.hv r.dat 0
    · by_cases e1 : r.sz = -1 <;> by_cases e2 : r.sum = 0 <;> cases emp r.nm <;> simp [e1, e2, beq_dec]
    · simp
  · simp [h]
theorem chkRgs_srt {l : List Rg} {lim : Int} (h : chkRgs l lim = 0) : Srt lim 0 l := by
  unfold chkRgs at h
  by_cases h1 : inB lim 0 100000 = false
  · simp [h1] at h
  · by_cases h2 : 2000 < l.length
    · simp [h1, h2] at h
    · simp only [h1, h2, if_false] at h
      exact rgF_srt (p := none) h
theorem f95_eq {k : Nat} (r : Rv) (hl : r.hv.length ≤ 1000000) (hk : r.hv.length + 4 < k) (K : List Rg → Option R) : f95 k r.st r.id r.nm r.dat r.hv r.sz r.sum r.wt r.tr K = K (holesF r.hv r.sz) := by
  rw [f95_def]
  obtain ⟨k, rfl⟩ := succ_of hk
  simp only [f95d, f87_eq (show r.hv.length + 2 < k by omega) hl]
theorem f56_eq {k : Nat} (r : Rv) (hn : r.nm.size < 4611686018427387904) (hk : r.nm.size + r.hv.length + 100020 < k) (K : Int → Option R) :
    f56 k r.st r.id r.nm r.dat r.hv r.sz r.sum r.wt r.tr K = K (chkRecv r) := by
  rw [f56_def]
  obtain ⟨k, rfl⟩ := succ_of hk
  have es : (r.nm.toList == (⟨#[]⟩ : ByteArray).toList) = emp r.nm := rfl
  have hsz : ∀ xN : Int → Option R, f56_1000011 k xN r.sz (r.sz == -1) r.st r.id r.nm r.dat r.hv r.sz r.sum r.wt r.tr = xN (if r.sz = -1 then 100000 else r.sz) := by
    intro xN
    simp only [f56_1000011_def, f56_1000011d, beq_dec]
    by_cases h : r.sz = -1 <;> simp [h]
  simp only [f56d, f66_eq (show 0 < k by omega), f68_eq (show r.nm.size + 1 < k by omega) hn, es, hsz, f45_eq (l := r.hv) (show r.hv.length + 2 < k by omega), chkRecv]
  cases inB r.id 0 65535
  · rfl
  cases inB r.st 0 4
  · rfl
  cases inB r.sz (-1) 100000
  · cases emp r.nm <;> cases nameOk r.nm <;> rfl
  cases inB r.sum 0 4294967295
  · cases emp r.nm <;> cases nameOk r.nm <;> rfl
  cases inB r.wt 0 1000000
  · cases emp r.nm <;> cases nameOk r.nm <;> rfl
  cases inB r.tr 0 50
  · cases emp r.nm <;> cases nameOk r.nm <;> rfl
  by_cases hc : chkRgs r.hv (if r.sz = -1 then 100000 else r.sz) = 0
  · obtain ⟨c1, c2, c3⟩ := chkRgs_ok hc
    have hs := chkRgs_srt hc
    have hc' : (chkRgs r.hv (if r.sz = -1 then 100000 else r.sz) != 0) = false := by rw [bne_dec]; simp [hc]
    simp only [hc', f94_eq r hs c1 (show r.hv.length ≤ 2000 by omega) (show r.hv.length + 100010 < k by omega), f95_eq r (show r.hv.length ≤ 1000000 by omega) (show r.hv.length + 4 < k by omega), beq_dec, leneq]
    simp only [bne_dec]
    by_cases hf : formV r = 0
    · simp only [hc, hf, ne_eq, not_true_eq_false, if_false, decide_true, Bool.not_true, cond_false]
      generalize emp r.nm = e, nameOk r.nm = n, decide (r.st = 2) = q2, decide (r.wt = 0) = w0, decide (r.sz = -1) = s1, decide (r.st = 0) = q0, decide (r.dat.length = 0) = l0, decide (r.tr = 0) = t0, decide ((holesF r.hv r.sz).length = 0) = h0
      cases e <;> cases n <;> (try rfl) <;> cases q2 <;> cases w0 <;> cases s1 <;> cases q0 <;> cases l0 <;> cases t0 <;> cases h0 <;> rfl
    · cases emp r.nm <;> cases nameOk r.nm <;> simp [hc, hf]
  · have hc' : (chkRgs r.hv (if r.sz = -1 then 100000 else r.sz) != 0) = true := by rw [bne_dec]; simp [hc]
    simp only [hc']
    cases emp r.nm <;> cases nameOk r.nm <;> simp [hc]

theorem f118_true {k : Nat} {l : List Rg} (hk : 1 < k) (hl : l.length ≤ 1000000000) (K : List Rg → Option R) : f118 k true l K = K ((-1, (0, ())) :: l) := by
  rw [f118_def]
  obtain ⟨k, rfl⟩ := succ_of hk
  obtain ⟨k, rfl⟩ := succ_of (show 0 < k by omega)
  have h1 : decide (([(-1, (0, ()))] : List Rg).length ≤ LIM 16) = true := by rw [LIM16]; simp only [decide_eq_true_eq, List.length_singleton]; omega
  have h2 : decide (([(-1, (0, ()))] : List Rg).length + l.length ≤ LIM 16) = true := by rw [LIM16]; simp only [decide_eq_true_eq, List.length_singleton]; omega
  simp only [f118d, f118_1000003_def, f118_1000003d, cond_true, f106_def, f106d, h1, h2, List.cons_append, List.nil_append]
def lackF (r : Rv) : List Rg := bif emp r.nm then (-1, (0, ())) :: holesF r.hv r.sz else holesF r.hv r.sz
theorem f113_eq {k : Nat} (r : Rv) (hl : r.hv.length ≤ 1000000) (hk : r.hv.length + 4 < k) (hs : -1 ≤ r.sz) (K : Bool → List Rg → Option R) :
    f113 k r.st r.id r.nm r.dat r.hv r.sz r.sum r.wt r.tr K = bif decide (r.sz = -1) then K false [] else K true (lackF r) := by
  rw [f113_def]
  obtain ⟨k, rfl⟩ := succ_of hk
  have es : (r.nm.toList == (⟨#[]⟩ : ByteArray).toList) = emp r.nm := rfl
  have hd : decide (r.sz < 0) = decide (r.sz = -1) := by rw [Bool.eq_iff_iff]; simp only [decide_eq_true_eq]; omega
  have hh := holesF_len r.hv r.sz
  simp only [f113d, f88_eq (show r.hv.length + 2 < k by omega) hl, es, hd, lackF]
  cases emp r.nm
  · rw [f118_eq (show 0 < k by omega) (by omega)]; rfl
  · rw [f118_true (show 1 < k by omega) (by omega)]; rfl
theorem f98_eq {k : Nat} (r : Rv) (hl : r.hv.length ≤ 1000000) (hk : r.hv.length + 6 < k) (hs : -1 ≤ r.sz) (K : Bool → Option R) :
    f98 k r.st r.id r.nm r.dat r.hv r.sz r.sum r.wt r.tr K = K (!decide (r.sz = -1) && !emp r.nm && decide ((holesF r.hv r.sz).length = 0)) := by
  rw [f98_def]
  obtain ⟨k, rfl⟩ := succ_of hk
  have hlen : decide ((lackF r).length = 0) = (!emp r.nm && decide ((holesF r.hv r.sz).length = 0)) := by
    unfold lackF
    by_cases he : emp r.nm = true
    · rw [he]; simp
    · rw [Bool.not_eq_true] at he; rw [he]; simp
  simp only [f98d, f113_eq r hl (show r.hv.length + 4 < k by omega) hs, beq_dec, leneq, hlen]
  cases decide (r.sz = -1) <;> cases emp r.nm <;> simp
theorem f57_eq {k : Nat} (r : Rv) (hn : r.nm.size < 4611686018427387904) (hk : r.nm.size + r.hv.length + 100020 < k) (K : Int → Option R) :
    f57 k r.st r.id r.nm r.dat r.hv r.sz r.sum r.wt r.tr K = K (chkRecv r) := by
  rw [f57_def]
  obtain ⟨k, rfl⟩ := succ_of hk
  have es : (r.nm.toList == (⟨#[]⟩ : ByteArray).toList) = emp r.nm := rfl
  by_cases hz : inB r.sz (-1) 100000 = true
  · obtain ⟨z1, z2⟩ := inB_iff.1 hz
    have hd : decide (r.sz < 0) = decide (r.sz = -1) := by rw [Bool.eq_iff_iff]; simp only [decide_eq_true_eq]; omega
    have hd2 : decide (r.sz ≥ 0) = !decide (r.sz = -1) := by rw [Bool.eq_iff_iff]; simp only [decide_eq_true_eq, Bool.not_eq_true', decide_eq_false_iff_not]; omega
    have hsz : ∀ xN : Int → Option R, f57_1000011 k xN r.sz (decide (r.sz = -1)) r.st r.id r.nm r.dat r.hv r.sz r.sum r.wt r.tr = xN (if r.sz = -1 then 100000 else r.sz) := by
      intro xN
      simp only [f57_1000011_def, f57_1000011d]
      by_cases h : r.sz = -1 <;> simp [h]
    simp only [f57d, f72_eq (show 0 < k by omega), f74_eq (show r.nm.size + 1 < k by omega) hn, es, hd, hd2, hsz, f46_eq (l := r.hv) (show r.hv.length + 2 < k by omega), chkRecv]
    cases inB r.id 0 65535
    · rfl
    cases inB r.st 0 4
    · rfl
    rw [hz]
    cases inB r.sum 0 4294967295
    · cases emp r.nm <;> cases nameOk r.nm <;> rfl
    cases inB r.wt 0 1000000
    · cases emp r.nm <;> cases nameOk r.nm <;> rfl
    cases inB r.tr 0 50
    · cases emp r.nm <;> cases nameOk r.nm <;> rfl
    by_cases hc : chkRgs r.hv (if r.sz = -1 then 100000 else r.sz) = 0
    · obtain ⟨c1, c2, c3⟩ := chkRgs_ok hc
      have hs := chkRgs_srt hc
      obtain ⟨b1, b2⟩ := lastT_bounds hs
      have b3 := b2 c1.1
      have hc' : (chkRgs r.hv (if r.sz = -1 then 100000 else r.sz) != 0) = false := by rw [bne_dec]; simp [hc]
      simp only [hc', f96_eq (l := r.hv) (show 0 < k by omega) (by omega), f98_eq r (show r.hv.length ≤ 1000000 by omega) (show r.hv.length + 6 < k by omega) z1, beq_dec, leneq, lenpos]
      by_cases h : (r.dat.length : Int) = lastT 0 r.hv
      · have h' : ((r.dat.length : Int) != lastT 0 r.hv) = false := by rw [bne_dec]; simp [h]
        have hl0 : decide (r.hv.length = 0) = decide (r.dat.length = 0) := by
          rw [Bool.eq_iff_iff]; simp only [decide_eq_true_eq]
          constructor
          · intro e; rw [List.length_eq_zero_iff.1 e] at h; simp only [lastT] at h; omega
          · intro e
            cases hq : r.hv with
            | nil => rfl
            | cons x l =>
              rw [hq] at hs h
              obtain ⟨s1, s2, s3, s4⟩ := hs
              have := (lastT_bounds s4).1
              simp only [lastT] at h
              omega
        have hlp := f57_loop (R := R) k K
        simp only [h', f57_0_def, hl0]
        have hfl : ∀ x0 : Option R, f57_0d k K x0 r.st r.id r.nm r.dat r.hv r.sz r.sum r.wt r.tr k 0 = bif badF r.hv r.dat 0 then K 3 else x0 := fun x0 =>
          (f57_loop k K x0 r.st r.id r.nm r.dat r.hv r.sz r.sum r.wt r.tr (by omega) (by omega) (by omega) r.dat.length k 0 (by omega) (by omega)).trans (by rw [List.drop_zero])
        simp only [hfl]
        have hform : formV r = bif badF r.hv r.dat 0 then 3 else bif decide (r.sz = -1) && (!decide (r.sum = 0) || !emp r.nm) then 3 else 0 := by
          simp only [formV, h, ne_eq, not_true_eq_false, if_false]
          cases badF r.hv r.dat 0 <;> by_cases e1 : r.sz = -1 <;> by_cases e2 : r.sum = 0 <;> cases emp r.nm <;> simp [e1, e2]
        rw [hform]
        simp only [hc, bne_dec]
        generalize emp r.nm = e, nameOk r.nm = n, decide (r.st = 2) = q2, decide (r.wt = 0) = w0, decide (r.sz = -1) = s1, decide (r.st = 0) = q0, decide (r.dat.length = 0) = l0, decide (r.tr = 0) = t0, decide ((holesF r.hv r.sz).length = 0) = h0, decide (r.sum = 0) = u0, badF r.hv r.dat 0 = bb
        cases bb
        · cases e <;> cases n <;> (try rfl) <;> cases s1 <;> cases u0 <;> (try rfl) <;> cases q2 <;> cases w0 <;> cases q0 <;> cases l0 <;> cases t0 <;> cases h0 <;> rfl
        · cases e <;> cases n <;> rfl
      · have h' : ((r.dat.length : Int) != lastT 0 r.hv) = true := by rw [bne_dec]; simp [h]
        have hfv : formV r = 3 := by simp [formV, h]
        simp only [h', hfv]
        rcases Bool.eq_false_or_eq_true (emp r.nm) with he | he <;> rcases Bool.eq_false_or_eq_true (nameOk r.nm) with hn' | hn' <;> simp [he, hn', hc]
    · have hc' : (chkRgs r.hv (if r.sz = -1 then 100000 else r.sz) != 0) = true := by rw [bne_dec]; simp [hc]
      simp only [hc']
      cases emp r.nm <;> cases nameOk r.nm <;> simp [hc]
  · have hz' : inB r.sz (-1) 100000 = false := by simpa using hz
    simp only [f57d, f72_eq (show 0 < k by omega), f74_eq (show r.nm.size + 1 < k by omega) hn, es, hz', chkRecv]
    cases inB r.id 0 65535
    · rfl
    cases inB r.st 0 4
    · rfl
    cases emp r.nm <;> cases nameOk r.nm <;> rfl
end Go.Proofs.Ytlcklflbhhnnhaa.PM

/- Plain laws of senders: what they do with a letter. -/
import Derived.Test.YtlcklflbhhnnhaaPlSpan2
set_option linter.unusedSimpArgs false
set_option linter.unusedVariables false
namespace Go.Proofs.Ytlcklflbhhnnhaa.PM
open Go Go.Proofs.Ytlcklflbhhnnhaa.Bt
variable {R : Type}

theorem f131_eq {k : Nat} (hk : 8 < k) (l : List Rg) (hl : l.length ≤ 100000) (b : Bool) (K : List Rg → Option R) : f131 k l b K = K (bif b then (-1, (0, ())) :: l else l) := by
  rw [f131_def]
  obtain ⟨k, rfl⟩ := succ_of hk
  cases b
  · rfl
  · simp only [f131d, cond_true, f104_def]
    rw [show f104d (R := R) k = fun K => f104d k K from rfl]
    obtain ⟨k, rfl⟩ := succ_of (show 0 < k by omega)
    simp only [f104d]
    rw [f114_eq (show 5 < k + 1 by omega) _ _ (by simp) hl]
    rfl
theorem f118_true {k : Nat} {l : List Rg} (hk : 1 < k) (hl : l.length ≤ 1000000000) (K : List Rg → Option R) : f118 k true l K = K ((-1, (0, ())) :: l) := by
  rw [f118_def]
  obtain ⟨k, rfl⟩ := succ_of hk
  obtain ⟨k, rfl⟩ := succ_of (show 0 < k by omega)
  have h1 : decide (([(-1, (0, ()))] : List Rg).length ≤ LIM 16) = true := by rw [LIM16]; simp only [decide_eq_true_eq, List.length_singleton]; omega
  have h2 : decide (([(-1, (0, ()))] : List Rg).length + l.length ≤ LIM 16) = true := by rw [LIM16]; simp only [decide_eq_true_eq, List.length_singleton]; omega
  simp only [f118d, f118_1000003_def, f118_1000003d, cond_true, f106_def, f106d, h1, h2, List.cons_append, List.nil_append]

theorem f118_bool {k : Nat} {l : List Rg} (hk : 1 < k) (hl : l.length ≤ 1000000000) (b : Bool) (K : List Rg → Option R) : f118 k b l K = K (bif b then (-1, (0, ())) :: l else l) := by
  cases b
  · exact f118_eq (by omega) hl K
  · exact f118_true hk hl K
def fitF (nx : Int) (l : List Rg) : List Rg := l.filter fun x => decide (x.2.1 ≤ nx)
theorem fitF_len (nx : Int) (l : List Rg) : (fitF nx l).length ≤ l.length := List.length_filter_le _ _
theorem fit_step (nx : Int) (l : List Rg) {i : Nat} (h : i < l.length) : fitF nx (l.take (i + 1)) = fitF nx (l.take i) ++ (if (l[i]).2.1 ≤ nx then [l[i]] else []) := by
  unfold fitF
  rw [List.take_succ_eq_append_getElem h, List.filter_append]
  congr 1
  by_cases q : (l[i]).2.1 ≤ nx
  · rw [if_pos q, List.filter_cons, if_pos (by simpa using q)]; rfl
  · rw [if_neg q, List.filter_cons, if_neg (by simpa using q)]; rfl
theorem f117_loop (k : Nat) (x0 : List Rg → Option R) (z0 : Bool) (z1 : List Rg) (z2 : Bool) (l : List Rg) (z6 z7 : Int) (z8 : ByteArray) (z9 : List Int) (nx : Int) (z11 : List Rg) (z12 z13 z14 z15 : Int) (z16 : ByteArray) (z17 z18 z19 : Int) (hl : l.length ≤ 100000) : ∀ (d f i : Nat), i + d = l.length → d < f →
    f117_0d k x0 z0 z1 z2 l (l.length : Int) z6 z7 z8 z9 nx z11 z12 z13 z14 z15 z16 z17 z18 z19 f (i : Int) (fitF nx (l.take i)) = x0 (fitF nx l)
  | d, 0, i, _, h => absurd h (Nat.not_lt_zero _)
  | 0, f + 1, i, hi, _ => by
    have h1 : decide ((i : Int) < (l.length : Int)) = false := by simp only [decide_eq_false_iff_not]; omega
    simp only [f117_0d, f117_0b, h1, cond_false]
    rw [List.take_of_length_le (by omega)]
  | d + 1, f + 1, i, hi, hf => by
    have h1 : decide ((i : Int) < (l.length : Int)) = true := by simp only [decide_eq_true_eq]; omega
    have h0 : decide ((0 : Int) ≤ (i : Int)) = true := by simp
    have hw : IntKind.i64.wrap ((i : Int) + 1) = ((i + 1 : Nat) : Int) := by rw [wi (by omega) (by omega)]; omega
    have hli : i < l.length := by omega
    have hg : l.getD (Int.toNat (i : Int)) (0, (0, ())) = l[i] := getD_in hli
    have ih := f117_loop k x0 z0 z1 z2 l z6 z7 z8 z9 nx z11 z12 z13 z14 z15 z16 z17 z18 z19 hl d f (i + 1) (by omega) (by omega)
    rw [fit_step nx l hli] at ih
    have hlen := fitF_len nx (l.take i)
    rw [List.length_take] at hlen
    have hL : decide ((fitF nx (l.take i)).length + ([((l[i]).1, ((l[i]).2.1, ()))] : List Rg).length ≤ LIM 16) = true := by rw [LIM16]; simp only [decide_eq_true_eq, List.length_singleton]; omega
    simp only [f117_0d, f117_0b, hg, h1, h0, cond_true, Bool.and_self, hw, f117_1000008_def, f117_1000008d, hL]
    by_cases q : (l[i]).2.1 ≤ nx
    · rw [if_pos q] at ih
      simp only [q, decide_true, cond_true]
      exact ih
    · rw [if_neg q, List.append_nil] at ih
      simp only [q, decide_false, cond_false]
      exact ih
theorem f91_loop (k : Nat) (x0 : List Rg → Option R) (z0 : Bool) (z1 : List Rg) (z2 : Bool) (l : List Rg) (z6 z7 : Int) (z8 : ByteArray) (z9 : List Int) (nx : Int) (z11 : List Rg) (z12 z13 z14 z15 : Int) (z16 : ByteArray) (z17 z18 z19 : Int) (hl : l.length ≤ 100000) : ∀ (d f i : Nat), i + d = l.length → d < f →
    f91_1d k x0 z0 z1 z2 l z6 z7 z8 z9 nx z11 z12 z13 z14 z15 z16 z17 z18 z19 f (i : Int) (fitF nx (l.take i)) = x0 (fitF nx l)
  | d, 0, i, _, h => absurd h (Nat.not_lt_zero _)
  | 0, f + 1, i, hi, _ => by
    have h1 : decide ((i : Int) < (l.length : Int)) = false := by simp only [decide_eq_false_iff_not]; omega
    simp only [f91_1d, f91_1b, h1, cond_false]
    rw [List.take_of_length_le (by omega)]
  | d + 1, f + 1, i, hi, hf => by
    have h1 : decide ((i : Int) < (l.length : Int)) = true := by simp only [decide_eq_true_eq]; omega
    have h0 : decide ((0 : Int) ≤ (i : Int)) = true := by simp
    have hw : IntKind.i64.wrap ((i : Int) + 1) = ((i + 1 : Nat) : Int) := by rw [wi (by omega) (by omega)]; omega
    have hli : i < l.length := by omega
    have hg : l.getD (Int.toNat (i : Int)) (0, (0, ())) = l[i] := getD_in hli
    have ih := f91_loop k x0 z0 z1 z2 l z6 z7 z8 z9 nx z11 z12 z13 z14 z15 z16 z17 z18 z19 hl d f (i + 1) (by omega) (by omega)
    rw [fit_step nx l hli] at ih
    have hlen := fitF_len nx (l.take i)
    rw [List.length_take] at hlen
    have hL : decide ((fitF nx (l.take i)).length + ([((l[i]).1, ((l[i]).2.1, ()))] : List Rg).length ≤ LIM 16) = true := by rw [LIM16]; simp only [decide_eq_true_eq, List.length_singleton]; omega
    simp only [f91_1d, f91_1b, hg, h1, h0, cond_true, Bool.and_self, hw, f91_1000012_def, f91_1000012d, hL]
    by_cases q : (l[i]).2.1 ≤ nx
    · rw [if_pos q] at ih
      simp only [q, decide_true, cond_true]
      exact ih
    · rw [if_neg q, List.append_nil] at ih
      simp only [q, decide_false, cond_false]
      exact ih
theorem can_weak : ∀ {a b : Int} {l : List Rg}, a ≤ b → Can b l → Can a l
  | _, _, [], _, _ => trivial
  | a, b, x :: l, h, ⟨h1, h2, h3⟩ => ⟨by omega, h2, h3⟩
theorem can_filter (p : Rg → Bool) : ∀ {a : Int} {l : List Rg}, Can a l → Can a (l.filter p)
  | _, [], _ => trivial
  | a, x :: l, ⟨h1, h2, h3⟩ => by
    rw [List.filter_cons]
    split
    · exact ⟨h1, h2, can_filter p h3⟩
    · exact can_weak (by omega) (can_filter p h3)
theorem fit_ok {lim nx n : Int} {l : List Rg} (h : LOk lim l) (hn : nx ≤ n) (hb : 0 ≤ n ∧ n ≤ 100000) : LOk n (fitF nx l) := by
  have hl := fitF_len nx l
  have := h.len
  refine ⟨hb, by omega, can_filter _ h.can, fun x hx => ?_⟩
  unfold fitF at hx
  have := (List.mem_filter.1 hx).2
  rw [decide_eq_true_eq] at this
  omega
theorem chkSend_rgs {s : Sd} (h : chkSend s = 0) : LOk s.dat.length (cutF s.hs) ∧ (-1 ≤ s.nx ∧ s.nx ≤ s.dat.length) := by
  unfold chkSend at h
  by_cases h1 : chkFile s.id s.nm s.dat.length = 0
  · cases h2 : inB s.st 1 4
    · simp [h1, h2] at h
    · cases h3 : inB s.nx (-1) s.dat.length
      · simp [h1, h2, h3] at h
      · cases h4 : inB s.wt 0 1000000
        · simp [h1, h2, h3, h4] at h
        · cases h5 : inB s.tr 0 50
          · simp [h1, h2, h3, h4, h5] at h
          · by_cases h6 : chkRgs (cutF s.hs) s.dat.length = 0
            · exact ⟨chk_ok h6, inB_iff.1 h3⟩
            · simp [h1, h2, h3, h4, h5, h6] at h
  · simp [h1] at h
theorem chkLetter_hole {num : Int} {s : ByteArray} {a b c : Int} {l : List Int} {rs : List Rg} {f : Bool} (h : chkLetter 4 num s a b c l rs f = 0) : LOk 100000 (cutF rs) := by
  unfold chkLetter at h
  by_cases h1 : inB 4 1 6 = false
  · rw [if_pos h1] at h; cases h
  · rw [if_neg h1] at h
    by_cases h2 : inB num 0 65535 = false
    · rw [if_pos h2] at h; cases h
    · rw [if_neg h2] at h
      by_cases h3 : extra 4 (emp s) a b c l.length rs.length f = true
      · rw [if_pos h3] at h; cases h
      · rw [if_neg h3, if_neg (fun q => absurd q.1 (by decide)), if_neg (by decide), if_neg (by decide), if_pos rfl] at h
        by_cases h4 : rs.length = 0
        · rw [if_pos h4] at h; cases h
        · rw [if_neg h4] at h; exact chk_ok h
/-! what is asked for -/
noncomputable def askF (s : Sd) (rs : List Rg) : List Rg := jn (cutF s.hs) (fitF s.nx (cutF rs))
noncomputable def agF (s : Sd) (rs : List Rg) : List Rg := bif headF s.hs || (headF rs && !decide (s.nx = -1)) then (-1, (0, ())) :: askF s rs else askF s rs
noncomputable def askS (s : Sd) (rs : List Rg) : Sd × Int :=
  if 2000 < (askF s rs).length then (zS, 2) else (⟨bif decide ((agF s rs).length = 0) then s.st else 1, s.id, s.nm, s.dat, s.nx, agF s rs, bif decide ((agF s rs).length = 0) then s.wt else 0, 0⟩, 0)
def apS9 (K : Int → Int → ByteArray → List Int → Int → List Rg → Int → Int → Int → Option R) (x : Sd × Int) : Option R := K x.1.st x.1.id x.1.nm x.1.dat x.1.nx x.1.hs x.1.wt x.1.tr x.2
theorem f117_eq {k : Nat} (s : Sd) (rs : List Rg) (hs : LOk s.dat.length (cutF s.hs)) (hr : LOk 100000 (cutF rs)) (hn : -1 ≤ s.nx ∧ s.nx ≤ s.dat.length) (hk : 9000 < k) (K : Int → Int → ByteArray → List Int → Int → List Rg → Int → Int → Int → Option R) :
    f117 k s.st s.id s.nm s.dat s.nx s.hs s.wt s.tr rs K = apS9 K (askS s rs) := by
  rw [f117_def]
  obtain ⟨k, rfl⟩ := succ_of (show 0 < k by omega)
  have hf := fit_ok hr hn.2 hs.bnd
  have l1 := hr.len
  have l2 := hs.len
  have l3 := hf.len
  simp only [f117d, f71_eq (show 1 < k by omega), f117_0_def]
  refine (f117_loop k _ _ _ _ (cutF rs) s.st s.id s.nm s.dat s.nx s.hs s.wt s.tr 0 0 ⟨#[]⟩ 0 0 0 (by omega) (cutF rs).length k 0 (by omega) (by omega)).trans ?_
  rw [f86_eq hs.len hf.len (sortOk_of hs hf) (show 5000 < k by omega)]
  have ea : jn (cutF s.hs) (fitF s.nx (cutF rs)) = askF s rs := rfl
  rw [ea]
  by_cases h3 : 2000 < (askF s rs).length
  · have hv : askS s rs = (zS, 2) := by unfold askS; rw [if_pos h3]
    simp only [d2000, h3, decide_true, cond_true, hv, apS9, zS]
  · have hv : askS s rs = (⟨bif decide ((agF s rs).length = 0) then s.st else 1, s.id, s.nm, s.dat, s.nx, agF s rs, bif decide ((agF s rs).length = 0) then s.wt else 0, 0⟩, 0) := by unfold askS; rw [if_neg h3]
    simp only [d2000, h3, decide_false, cond_false, hv, apS9, f131_eq (show 8 < k by omega) (askF s rs) (by omega), f117_1000016_def, f117_1000016d, bne_dec, lenpos]
    have hag : agF s rs = bif headF s.hs || (headF rs && !decide (s.nx = -1)) then (-1, (0, ())) :: askF s rs else askF s rs := rfl
    rw [hag]
    generalize headF s.hs = p, headF rs = q, decide (s.nx = -1) = r
    cases p <;> cases q <;> cases r <;> (try rfl) <;> simp only [Bool.false_or, Bool.true_or, Bool.or_false, Bool.and_true, Bool.and_false, Bool.not_true, Bool.not_false, Bool.false_and, Bool.true_and, cond_true, cond_false, beq_self_eq_true, show (true == false) = false from rfl, show (false == true) = false from rfl] <;>
      cases decide ((askF s rs).length = 0) <;> rfl
/-! a letter -/
noncomputable def hearS (s : Sd) (kind id : Int) (rs : List Rg) (f : Bool) : Sd × Int :=
  bif !decide (id = s.id) || decide (s.st = 3) || decide (s.st = 4) then (s, 0)
  else bif decide (kind = 4) then askS s rs
  else bif decide (kind = 5) && f then ({ s with st := 3, hs := [], wt := 0 }, 0)
  else bif decide (kind = 5) || decide (kind = 6) then ({ s with st := 4, hs := [], wt := 0 }, 0) else (s, 0)
theorem f90_eq {k : Nat} (s : Sd) (kind id : Int) (nm : ByteArray) (x y z : Int) (l : List Int) (rs : List Rg) (f : Bool) (hs : LOk s.dat.length (cutF s.hs)) (hr : kind = 4 → LOk 100000 (cutF rs)) (hn : -1 ≤ s.nx ∧ s.nx ≤ s.dat.length) (hk : 9010 < k)
    (K : Int → Int → ByteArray → List Int → Int → List Rg → Int → Int → Int → Option R) : f90 k s.st s.id s.nm s.dat s.nx s.hs s.wt s.tr kind id nm x y z l rs f K = apS9 K (hearS s kind id rs f) := by
  rw [f90_def]
  obtain ⟨k, rfl⟩ := succ_of (show 0 < k by omega)
  simp only [f90d, bne_dec, beq_dec, f90_1000006_def, f90_1000006d, f90_1000008_def, f90_1000008d, hearS]
  cases decide (id = s.id)
  · rfl
  · cases decide (s.st = 3)
    · cases decide (s.st = 4)
      · by_cases h4 : kind = 4
        · subst h4
          simp only [decide_true, cond_true, cond_false, Bool.not_true, Bool.or_self, beq_self_eq_true, f117_eq s rs hs (hr rfl) hn (show 9000 < k by omega)]
        · simp only [h4, decide_false, cond_false]
          cases decide (kind = 5) <;> cases decide (kind = 6) <;> cases f <;> rfl
      · rfl
    · rfl
theorem f91_eq {k : Nat} (s : Sd) (kind id : Int) (nm : ByteArray) (x y z : Int) (l : List Int) (rs : List Rg) (f : Bool) (hs : LOk s.dat.length (cutF s.hs)) (hr : kind = 4 → LOk 100000 (cutF rs)) (hn : -1 ≤ s.nx ∧ s.nx ≤ s.dat.length) (hk : 9010 < k)
    (K : Int → Int → ByteArray → List Int → Int → List Rg → Int → Int → Int → Option R) : f91 k s.st s.id s.nm s.dat s.nx s.hs s.wt s.tr kind id nm x y z l rs f K = apS9 K (hearS s kind id rs f) := by
  rw [f91_def]
  obtain ⟨k, rfl⟩ := succ_of (show 0 < k by omega)
  have l2 := hs.len
  simp only [f91d, bne_dec, beq_dec, f91_1000005_def, f91_1000005d, f91_1000021_def, f91_1000021d, f91_1000023_def, f91_1000023d, f91_1000025_def, f91_1000025d, hearS]
  cases decide (id = s.id)
  · rfl
  · cases decide (s.st = 3)
    · cases decide (s.st = 4)
      · by_cases h4 : kind = 4
        · subst h4
          have hr := hr rfl
          have hf := fit_ok hr hn.2 hs.bnd
          have l1 := hr.len
          have l3 := hf.len
          simp only [decide_true, cond_true, cond_false, Bool.not_true, Bool.or_self, beq_self_eq_true, f75_eq (show 1 < k by omega), f91_1_def]
          refine (f91_loop k _ _ _ _ (cutF rs) s.st s.id s.nm s.dat s.nx s.hs s.wt s.tr 0 0 ⟨#[]⟩ 0 0 0 (by omega) (cutF rs).length k 0 (by omega) (by omega)).trans ?_
          rw [f89_eq hs.len hf.len (show 5000 < k by omega), jn_mg hs hf]
          have ea : jn (cutF s.hs) (fitF s.nx (cutF rs)) = askF s rs := rfl
          rw [ea]
          by_cases h3 : 2000 < (askF s rs).length
          · have hv : askS s rs = (zS, 2) := by unfold askS; rw [if_pos h3]
            simp only [d2000, h3, decide_true, cond_true, hv, apS9, zS]
          · have hv : askS s rs = (⟨bif decide ((agF s rs).length = 0) then s.st else 1, s.id, s.nm, s.dat, s.nx, agF s rs, bif decide ((agF s rs).length = 0) then s.wt else 0, 0⟩, 0) := by unfold askS; rw [if_neg h3]
            have hnx : decide (s.nx ≥ 0) = !decide (s.nx = -1) := by rw [Bool.eq_iff_iff]; simp only [decide_eq_true_eq, Bool.not_eq_true', decide_eq_false_iff_not]; omega
            simp only [d2000, h3, decide_false, cond_false, hv, apS9, f118_bool (show 1 < k by omega) (show (askF s rs).length ≤ 1000000000 by omega), f91_1000019_def, f91_1000019d, lenpos, hnx]
            have hag : agF s rs = bif headF s.hs || (headF rs && !decide (s.nx = -1)) then (-1, (0, ())) :: askF s rs else askF s rs := rfl
            rw [hag]
            generalize headF s.hs = p, headF rs = q, decide (s.nx = -1) = r
            cases p <;> cases q <;> cases r <;> (try rfl) <;> simp only [Bool.false_or, Bool.true_or, Bool.or_false, Bool.and_true, Bool.and_false, Bool.not_true, Bool.not_false, Bool.false_and, Bool.true_and, cond_true, cond_false, beq_self_eq_true, show (true == false) = false from rfl, show (false == true) = false from rfl] <;>
              cases decide ((askF s rs).length = 0) <;> rfl
        · simp only [h4, decide_false, cond_false]
          cases decide (kind = 5) <;> cases decide (kind = 6) <;> cases f <;> rfl
      · rfl
    · rfl
noncomputable def takeS (s : Sd) (kind id : Int) (nm : ByteArray) (x y z : Int) (l : List Int) (rs : List Rg) (f : Bool) : Sd × Int :=
  if chkSend s ≠ 0 then (zS, chkSend s) else if chkLetter kind id nm x y z l rs f ≠ 0 then (zS, chkLetter kind id nm x y z l rs f) else hearS s kind id rs f
theorem f47_eq {k : Nat} (s : Sd) (kind id : Int) (nm : ByteArray) (x y z : Int) (l : List Int) (rs : List Rg) (f : Bool) (hu : U8 s.dat) (h1 : s.nm.size < 4611686018427387904) (h2 : nm.size < 4611686018427387904) (hk : s.nm.size + s.hs.length + nm.size + rs.length + 9100 < k)
    (K : Int → Int → ByteArray → List Int → Int → List Rg → Int → Int → Int → Option R) : f47 k s.st s.id s.nm s.dat s.nx s.hs s.wt s.tr kind id nm x y z l rs f K = apS9 K (takeS s kind id nm x y z l rs f) := by
  rw [f47_def]
  obtain ⟨k, rfl⟩ := succ_of (show 0 < k by omega)
  simp only [f47d, f30_eq s (show s.nm.size + s.hs.length + 8 < k by omega) h1, f20_eq kind id nm x y z l rs f (show nm.size + rs.length + 20 < k by omega) h2, bne_dec, takeS]
  by_cases e : chkSend s = 0
  · by_cases e2 : chkLetter kind id nm x y z l rs f = 0
    · obtain ⟨g1, g2⟩ := chkSend_rgs e
      have gi := (chkSend_ok e hu).1
      have gl := gi.len
      have gh := gi.hsl
      simp only [e, e2, decide_true, Bool.not_true, cond_false, ne_eq, not_true_eq_false, if_false, f80_eq s (show 2 < k by omega) (by omega) (by omega)]
      exact f90_eq s kind id nm x y z l rs f g1 (fun h4 => by subst h4; exact chkLetter_hole e2) g2 (by omega) _
    · simp [e, e2, apS9, zS]
  · simp [e, apS9, zS]
theorem f48_eq {k : Nat} (s : Sd) (kind id : Int) (nm : ByteArray) (x y z : Int) (l : List Int) (rs : List Rg) (f : Bool) (h1 : s.nm.size < 4611686018427387904) (h2 : nm.size < 4611686018427387904) (hk : s.nm.size + s.hs.length + nm.size + rs.length + 9100 < k)
    (K : Int → Int → ByteArray → List Int → Int → List Rg → Int → Int → Int → Option R) : f48 k s.st s.id s.nm s.dat s.nx s.hs s.wt s.tr kind id nm x y z l rs f K = apS9 K (takeS s kind id nm x y z l rs f) := by
  rw [f48_def]
  obtain ⟨k, rfl⟩ := succ_of (show 0 < k by omega)
  simp only [f48d, f31_eq s (show s.nm.size + s.hs.length + 8 < k by omega) h1, f21_eq kind id nm x y z l rs f (show nm.size + rs.length + 20 < k by omega) h2, bne_dec, takeS]
  by_cases e : chkSend s = 0
  · by_cases e2 : chkLetter kind id nm x y z l rs f = 0
    · obtain ⟨g1, g2⟩ := chkSend_rgs e
      simp only [e, e2, decide_true, Bool.not_true, cond_false, ne_eq, not_true_eq_false, if_false]
      exact f91_eq s kind id nm x y z l rs f g1 (fun h4 => by subst h4; exact chkLetter_hole e2) g2 (by omega) _
    · simp [e, e2, apS9, zS]
  · simp [e, apS9, zS]
noncomputable def newS (s : Sd) : Sd × Int := if chkSend s ≠ 0 then (zS, chkSend s) else ({ s with st := if s.st = 2 then 1 else s.st, wt := 0, tr := 0 }, 0)
theorem f49_eq {k : Nat} (s : Sd) (hu : U8 s.dat) (h1 : s.nm.size < 4611686018427387904) (hk : s.nm.size + s.hs.length + 100 < k) (K : Int → Int → ByteArray → Int → Int → Int → Int → List Int → List Rg → Option R) :
    f49 k s.st s.id s.nm s.dat s.nx s.hs s.wt s.tr K = K (newS s).1.st (newS s).1.id (newS s).1.nm (newS s).1.nx (newS s).1.wt (newS s).1.tr (newS s).2 (newS s).1.dat (newS s).1.hs := by
  rw [f49_def]
  obtain ⟨k, rfl⟩ := succ_of (show 0 < k by omega)
  simp only [f49d, f30_eq s (show s.nm.size + s.hs.length + 8 < k by omega) h1, bne_dec, newS]
  by_cases e : chkSend s = 0
  · have gi := (chkSend_ok e hu).1
    have gl := gi.len
    have gh := gi.hsl
    simp only [e, decide_true, Bool.not_true, cond_false, ne_eq, not_true_eq_false, if_false, f80_eq s (show 2 < k by omega) (by omega) (by omega), f49_1000007_def, f49_1000007d, beq_dec]
    by_cases q : s.st = 2 <;> simp [q]
  · simp [e, zS]
theorem f50_eq {k : Nat} (s : Sd) (h1 : s.nm.size < 4611686018427387904) (hk : s.nm.size + s.hs.length + 100 < k) (K : Int → Int → ByteArray → List Int → Int → List Rg → Int → Int → Int → Option R) :
    f50 k s.st s.id s.nm s.dat s.nx s.hs s.wt s.tr K = apS9 K (newS s) := by
  rw [f50_def]
  obtain ⟨k, rfl⟩ := succ_of (show 0 < k by omega)
  simp only [f50d, f31_eq s (show s.nm.size + s.hs.length + 8 < k by omega) h1, bne_dec, newS]
  by_cases e : chkSend s = 0
  · simp only [e, decide_true, Bool.not_true, cond_false, ne_eq, not_true_eq_false, if_false, f50_1000006_def, f50_1000006d, beq_dec]
    by_cases q : s.st = 2 <;> simp [q, apS9]
  · simp [e, apS9, zS]
theorem hsl_of {s : Sd} (h : chkSend s = 0) : s.hs.length ≤ 2001 := by
  have hl := (chkSend_rgs h).1.len
  have : s.hs.length ≤ (cutF s.hs).length + 1 := by
    unfold cutF
    cases headF s.hs <;> simp <;> omega
  omega
theorem takeS_len (s : Sd) (kind id : Int) (nm : ByteArray) (x y z : Int) (l : List Int) (rs : List Rg) (f : Bool) : (takeS s kind id nm x y z l rs f).1.hs.length ≤ 2001 := by
  unfold takeS
  split
  · simp [zS]
  · rename_i e
    have e : chkSend s = 0 := by simpa using e
    have := hsl_of e
    split
    · simp [zS]
    · unfold hearS
      cases !decide (id = s.id) || decide (s.st = 3) || decide (s.st = 4)
      · cases decide (kind = 4)
        · cases decide (kind = 5) && f
          · cases decide (kind = 5) || decide (kind = 6)
            · exact this
            · simp
          · simp
        · show (askS s rs).1.hs.length ≤ 2001
          unfold askS
          split
          · simp [zS]
          · show (agF s rs).length ≤ 2001
            unfold agF
            cases headF s.hs || (headF rs && !decide (s.nx = -1)) <;> simp <;> omega
      · exact this
theorem newS_len (s : Sd) : (newS s).1.hs.length ≤ 2001 := by
  by_cases e : chkSend s = 0
  · have := hsl_of e
    have hv : (newS s).1.hs = s.hs := by unfold newS; rw [if_neg (not_not_intro e)]
    rw [hv]; exact this
  · have hv : newS s = (zS, chkSend s) := by unfold newS; rw [if_pos e]
    rw [hv]; simp [zS]
theorem f9_eq {k : Nat} (s : Sd) (kind id : Int) (nm : ByteArray) (x y z : Int) (l : List Int) (rs : List Rg) (f : Bool) (hu : U8 s.dat) (h1 : s.nm.size < 4611686018427387904) (h2 : nm.size < 4611686018427387904) (hk : s.nm.size + s.hs.length + nm.size + rs.length + 9200 < k) (K : Bool → Option R) :
    f9 k s.st s.id s.nm s.dat s.nx s.hs s.wt s.tr kind id nm x y z l rs f K = K true := by
  rw [f9_def]
  obtain ⟨k, rfl⟩ := succ_of (show 0 < k by omega)
  have t1 := takeS_len s kind id nm x y z l rs f
  have t2 := newS_len s
  simp only [f9d, f47_eq s kind id nm x y z l rs f hu h1 h2 (show s.nm.size + s.hs.length + nm.size + rs.length + 9100 < k by omega), f48_eq s kind id nm x y z l rs f h1 h2 (show s.nm.size + s.hs.length + nm.size + rs.length + 9100 < k by omega), apS9,
    f49_eq s hu h1 (show s.nm.size + s.hs.length + 100 < k by omega), f50_eq s h1 (show s.nm.size + s.hs.length + 100 < k by omega), f29_refl (takeS s kind id nm x y z l rs f).1 (show _ < k by omega) (by omega), f29_refl (newS s).1 (show _ < k by omega) (by omega),
    beq_self_eq_true, cond_true, f24_eq (show 20 < k by omega)]
end Go.Proofs.Ytlcklflbhhnnhaa.PM

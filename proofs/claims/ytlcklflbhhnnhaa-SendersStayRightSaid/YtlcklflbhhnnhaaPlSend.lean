/- Plain laws of senders. -/
import Derived.Test.YtlcklflbhhnnhaaPlLet
set_option linter.unusedSimpArgs false
set_option linter.unusedVariables false
namespace Go.Proofs.Ytlcklflbhhnnhaa.PM
open Go Go.Proofs.Ytlcklflbhhnnhaa.Bt
variable {R : Type}

theorem LIM1 : LIM 1 = 140737488355328 := by simp [LIM]
theorem LIM16 : LIM 16 = 8796093022208 := by simp [LIM]
theorem LIM112 : 1000000 ≤ LIM 112 := by simp [LIM]
def sumOf (l : List Int) : Int := sm l 0 % 4294967296
theorem f64_eq {k : Nat} {l : List Int} (hk : l.length + 2 < k) (hl : (l.length : Int) ≤ 100000) (hu : U8 l) (K : Int → Option R) : f64 k l K = K (sumOf l) := by
  rw [f64_def]
  obtain ⟨k, rfl⟩ := succ_of hk
  have h2 := sm_le hu 0
  simp only [f64d, f64_0_def]
  refine (f64_loop k _ l (by omega) hu l.length k 0 0 (by omega) (by omega) (by omega) (by omega)).trans ?_
  have := mask_i64 (sm l 0) 32 (by omega) h2.1 (by omega)
  simp only [List.drop_zero, Int.zero_add]
  rw [show (4294967295 : Int) = 2 ^ 32 - 1 from rfl, this]
  rfl
theorem f77_eq {k : Nat} {l : List Int} (hk : 0 < k) (hl : l.length ≤ 1000000000) (K : List Int → Option R) : f77 k l K = K l := by
  rw [f77_def]
  obtain ⟨k, rfl⟩ := succ_of hk
  have : decide (l.length ≤ LIM 1) = true := by rw [LIM1]; simp only [decide_eq_true_eq]; omega
  simp only [f77d, this, cond_true]
theorem f109_eq {k : Nat} {l : List Rg} (hk : 0 < k) (hl : l.length ≤ 1000000000) (K : List Rg → Option R) : f109 k l K = K l := by
  rw [f109_def]
  obtain ⟨k, rfl⟩ := succ_of hk
  have : decide (l.length ≤ LIM 16) = true := by rw [LIM16]; simp only [decide_eq_true_eq]; omega
  simp only [f109d, this, cond_true]

/-! what is begun -/
noncomputable def chkFile (id : Int) (nm : ByteArray) (n : Nat) : Int := if inB id 0 65535 = false then 1 else if nameOk nm = false then 5 else if 100000 < n then 2 else 0
theorem d100000 (n : Nat) : decide ((n : Int) > 100000) = decide (100000 < n) := by rw [Bool.eq_iff_iff]; simp only [decide_eq_true_eq]; omega
theorem f76_eq {k : Nat} (id : Int) (s : ByteArray) (l : List Int) (hk : s.size + 4 < k) (hs : s.size < 4611686018427387904) (K : Int → Option R) : f76 k id s l K = K (chkFile id s l.length) := by
  rw [f76_def]
  obtain ⟨k, rfl⟩ := succ_of hk
  simp only [f76d, f66_eq (show 0 < k by omega), f68_eq (show s.size + 1 < k by omega) hs, chkFile, d100000]
  cases inB id 0 65535
  · rfl
  · cases nameOk s
    · rfl
    · by_cases h : 100000 < l.length <;> simp [h]
theorem f78_eq {k : Nat} (id : Int) (s : ByteArray) (l : List Int) (hk : s.size + 4 < k) (hs : s.size < 4611686018427387904) (K : Int → Option R) : f78 k id s l K = K (chkFile id s l.length) := by
  rw [f78_def]
  obtain ⟨k, rfl⟩ := succ_of hk
  simp only [f78d, f72_eq (show 0 < k by omega), f74_eq (show s.size + 1 < k by omega) hs, chkFile, d100000]
  cases inB id 0 65535
  · rfl
  · cases nameOk s
    · rfl
    · by_cases h : 100000 < l.length <;> simp [h]
theorem chkFile_ok {id : Int} {s : ByteArray} {n : Nat} (h : chkFile id s n = 0) : n ≤ 100000 := by
  unfold chkFile at h
  split at h
  · cases h
  · split at h
    · cases h
    · split at h
      · cases h
      · omega

structure Sd where
  st : Int
  id : Int
  nm : ByteArray
  dat : List Int
  nx : Int
  hs : List Rg
  wt : Int
  tr : Int
def zS : Sd := ⟨0, 0, ⟨#[]⟩, [], 0, [], 0, 0⟩
abbrev Lt := Int × (Int × (ByteArray × (Int × (Int × (Int × (List Int × (List Rg × (Bool × Unit))))))))
noncomputable def beginF (id : Int) (nm : ByteArray) (l : List Int) : Sd × Int := if chkFile id nm l.length = 0 then (⟨1, id, nm, l, -1, [], 0, 0⟩, 0) else (zS, chkFile id nm l.length)
/-! a sender -/
noncomputable def chkSend (s : Sd) : Int :=
  if chkFile s.id s.nm s.dat.length ≠ 0 then chkFile s.id s.nm s.dat.length else if inB s.st 1 4 = false then 4
  else if inB s.nx (-1) s.dat.length = false then 1 else if inB s.wt 0 1000000 = false then 1 else if inB s.tr 0 50 = false then 1
  else if chkRgs (cutF s.hs) s.dat.length ≠ 0 then chkRgs (cutF s.hs) s.dat.length
  else if s.st = 2 then (if s.nx = s.dat.length ∧ s.hs.length = 0 ∧ s.wt ≠ 0 then 0 else 11) else if s.wt = 0 then 0 else 11
theorem f30_eq {k : Nat} (s : Sd) (hk : s.nm.size + s.hs.length + 8 < k) (hs : s.nm.size < 4611686018427387904) (K : Int → Option R) :
    f30 k s.st s.id s.nm s.dat s.nx s.hs s.wt s.tr K = K (chkSend s) := by
  rw [f30_def]
  obtain ⟨k, rfl⟩ := succ_of hk
  have hcl := cutF_len s.hs
  simp only [f30d, f76_eq s.id s.nm s.dat (show s.nm.size + 4 < k by omega) hs, f66_eq (show 0 < k by omega), f71_eq (show 1 < k by omega), f45_eq (show (cutF s.hs).length + 2 < k by omega), bne_dec, beq_dec, lenpos, chkSend]
  by_cases h1 : chkFile s.id s.nm s.dat.length = 0
  · cases inB s.st 1 4
    · simp [h1]
    · cases inB s.nx (-1) s.dat.length
      · simp [h1]
      · cases inB s.wt 0 1000000
        · simp [h1]
        · cases inB s.tr 0 50
          · simp [h1]
          · by_cases h2 : chkRgs (cutF s.hs) s.dat.length = 0
            · by_cases h3 : s.st = 2
              · by_cases h4 : s.nx = s.dat.length <;> by_cases h5 : s.hs.length = 0 <;> by_cases h6 : s.wt = 0 <;> simp [h1, h2, h3, h4, h5, h6]
              · by_cases h6 : s.wt = 0 <;> simp [h1, h2, h3, h6]
            · simp [h1, h2]
  · simp [h1]
theorem f31_eq {k : Nat} (s : Sd) (hk : s.nm.size + s.hs.length + 8 < k) (hs : s.nm.size < 4611686018427387904) (K : Int → Option R) :
    f31 k s.st s.id s.nm s.dat s.nx s.hs s.wt s.tr K = K (chkSend s) := by
  rw [f31_def]
  obtain ⟨k, rfl⟩ := succ_of hk
  have hcl := cutF_len s.hs
  simp only [f31d, f78_eq s.id s.nm s.dat (show s.nm.size + 4 < k by omega) hs, f72_eq (show 0 < k by omega), f75_eq (show 1 < k by omega), f46_eq (show (cutF s.hs).length + 2 < k by omega), bne_dec, beq_dec, lenpos, chkSend]
  by_cases h1 : chkFile s.id s.nm s.dat.length = 0
  · cases inB s.st 1 4
    · simp [h1]
    · cases inB s.nx (-1) s.dat.length
      · simp [h1]
      · cases inB s.wt 0 1000000
        · simp [h1]
        · cases inB s.tr 0 50
          · simp [h1]
          · by_cases h2 : chkRgs (cutF s.hs) s.dat.length = 0
            · by_cases h3 : s.st = 2
              · by_cases h4 : s.nx = s.dat.length <;> by_cases h5 : s.hs.length = 0 <;> by_cases h6 : s.wt = 0 <;> simp [h1, h2, h3, h4, h5, h6]
              · by_cases h6 : s.wt = 0 <;> simp [h1, h2, h3, h6]
            · simp [h1, h2]
  · simp [h1]

/-! what a checked sender is -/
def RgOk (n : Int) (x : Rg) : Prop := 0 ≤ x.1 ∧ x.1 < x.2.1 ∧ x.2.1 ≤ n
theorem rgF_ok {lim : Int} : ∀ {p : Option Int} {l : List Rg}, rgF lim p l = 0 → ∀ x ∈ l, RgOk lim x
  | _, [], _, x, hx => by cases hx
  | p, y :: l, h, x, hx => by
    have hb : RgOk lim y ∧ rgF lim (some y.2.1) l = 0 := by
      simp only [rgF] at h
      by_cases q1 : y.1 < 0
      · simp [q1] at h
      by_cases q2 : y.2.1 > lim
      · simp [q1, q2] at h
      by_cases q3 : y.2.1 ≤ y.1
      · simp [q1, q2, q3] at h
      have hr : RgOk lim y := ⟨by omega, by omega, by omega⟩
      cases p with
      | none => exact ⟨hr, by simpa [q1, q2, q3] using h⟩
      | some e =>
        by_cases q4 : y.1 ≤ e
        · simp [q1, q2, q3, q4] at h
        · exact ⟨hr, by simpa [q1, q2, q3, q4] using h⟩
    rcases List.mem_cons.1 hx with rfl | hx
    · exact hb.1
    · exact rgF_ok hb.2 x hx
theorem chkRgs_ok {l : List Rg} {lim : Int} (h : chkRgs l lim = 0) : (0 ≤ lim ∧ lim ≤ 100000) ∧ l.length ≤ 2000 ∧ ∀ x ∈ l, RgOk lim x := by
  unfold chkRgs at h
  split at h
  · cases h
  · rename_i h1
    split at h
    · cases h
    · exact ⟨inB_iff.1 (by simpa using h1), by omega, rgF_ok h⟩
structure SInv (s : Sd) : Prop where
  len : (s.dat.length : Int) ≤ 100000
  u8 : U8 s.dat
  nx0 : -1 ≤ s.nx
  nx1 : s.nx ≤ s.dat.length
  hsl : s.hs.length ≤ 2001
  rg : ∀ x ∈ cutF s.hs, RgOk s.dat.length x
theorem headF_cut {l : List Rg} {n : Int} (h : ∀ x ∈ l, RgOk n x) : headF l = false := by
  cases l with
  | nil => rfl
  | cons x l =>
    have := (h x (by simp)).1
    have h1 : ¬ x.1 = -1 := by omega
    simp [headF, h1]
theorem cutF_of {l : List Rg} (h : headF l = false) : cutF l = l := by simp [cutF, h]

/-! one letter -/
def metaL (s : Sd) : Lt := (1, (s.id, (s.nm, ((s.dat.length : Int), (sumOf s.dat, (0, ([], ([], (false, ())))))))))
def endL (s : Sd) : Lt := (3, (s.id, (⟨#[]⟩, ((s.dat.length : Int), (sumOf s.dat, (0, ([], ([], (false, ())))))))))
def dataL (s : Sd) (a b : Int) : Lt := (2, (s.id, (⟨#[]⟩, (0, (0, (a, ((s.dat.take b.toNat).drop a.toNat, ([], (false, ())))))))))
def mn (a b : Int) : Int := if a < b then a else b
def oneS (seg wait : Int) (s : Sd) : Sd × Lt :=
  if s.nx < 0 then ({ s with nx := 0 }, metaL s)
  else if headF s.hs = true then ({ s with hs := cutF s.hs }, metaL s)
  else match s.hs with
  | x :: r => ({ s with hs := if mn (x.1 + seg) x.2.1 < x.2.1 then (mn (x.1 + seg) x.2.1, (x.2.1, ())) :: r else r }, dataL s x.1 (mn (x.1 + seg) x.2.1))
  | [] => if s.nx < s.dat.length then ({ s with nx := mn (s.nx + seg) s.dat.length }, dataL s s.nx (mn (s.nx + seg) s.dat.length)) else ({ s with st := 2, wt := wait }, endL s)
theorem oneS_inv {seg wait : Int} (hg : 1 ≤ seg) {s : Sd} (h : SInv s) : SInv (oneS seg wait s).1 := by
  obtain ⟨h1, h2, h3, h4, h5, h6⟩ := h
  unfold oneS
  split
  · exact ⟨h1, h2, by show (-1 : Int) ≤ 0; omega, by show (0 : Int) ≤ s.dat.length; omega, h5, h6⟩
  · split
    · rename_i hn hh
      have := cutF_len s.hs
      refine ⟨h1, h2, h3, h4, by show (cutF s.hs).length ≤ 2001; omega, ?_⟩
      show ∀ x ∈ cutF (cutF s.hs), RgOk s.dat.length x
      rw [cutF_of (headF_cut h6)]
      exact h6
    · rename_i hn hh
      have hh : headF s.hs = false := by simpa using hh
      rw [cutF_of hh] at h6
      split
      · rename_i x r e
        rw [e] at h5 h6
        have hx := h6 x (by simp)
        have hr : ∀ y ∈ r, RgOk s.dat.length y := fun y hy => h6 y (by simp [hy])
        simp only [List.length_cons] at h5
        refine ⟨h1, h2, h3, h4, ?_, ?_⟩
        · show (if mn (x.1 + seg) x.2.1 < x.2.1 then (mn (x.1 + seg) x.2.1, (x.2.1, ())) :: r else r).length ≤ 2001
          split
          · simp only [List.length_cons]; omega
          · omega
        · show ∀ y ∈ cutF (if mn (x.1 + seg) x.2.1 < x.2.1 then (mn (x.1 + seg) x.2.1, (x.2.1, ())) :: r else r), RgOk s.dat.length y
          have hall : ∀ y ∈ (if mn (x.1 + seg) x.2.1 < x.2.1 then (mn (x.1 + seg) x.2.1, (x.2.1, ())) :: r else r), RgOk s.dat.length y := by
            split
            · rename_i hm
              intro y hy
              rcases List.mem_cons.1 hy with rfl | hy
              · refine ⟨?_, hm, hx.2.2⟩
                show 0 ≤ mn (x.1 + seg) x.2.1
                have := hx.1
                have := hx.2.1
                unfold mn; split <;> omega
              · exact hr y hy
            · exact hr
          rw [cutF_of (headF_cut hall)]
          exact hall
      · rename_i e
        split
        · refine ⟨h1, h2, ?_, ?_, h5, by rw [← cutF_of hh] at h6; exact h6⟩
          · show -1 ≤ mn (s.nx + seg) s.dat.length
            unfold mn; split <;> omega
          · show mn (s.nx + seg) s.dat.length ≤ s.dat.length
            unfold mn; split <;> omega
        · exact ⟨h1, h2, h3, h4, h5, by rw [← cutF_of hh] at h6; exact h6⟩
def apSL (K : Int → Int → ByteArray → List Int → Int → List Rg → Int → Int → Int → Int → ByteArray → Int → Int → Int → Bool → List Int → Option R) (x : Sd × Lt) : Option R :=
  K x.1.st x.1.id x.1.nm x.1.dat x.1.nx x.1.hs x.1.wt x.1.tr x.2.1 x.2.2.1 x.2.2.2.1 x.2.2.2.2.1 x.2.2.2.2.2.1 x.2.2.2.2.2.2.1 x.2.2.2.2.2.2.2.2.2.1 x.2.2.2.2.2.2.2.1
theorem f107_eq {k : Nat} {l : List Int} (hk : l.length + 3 < k) (hl : (l.length : Int) ≤ 100000) (hu : U8 l) (st id : Int) (nm : ByteArray) (nx : Int) (hs : List Rg) (wt tr : Int)
    (K : Int → Int → ByteArray → Int → Int → Int → Bool → Option R) : f107 k st id nm l nx hs wt tr K = K 3 id ⟨#[]⟩ l.length (sumOf l) 0 false := by
  rw [f107_def]
  obtain ⟨k, rfl⟩ := succ_of hk
  simp only [f107d, f64_eq (show l.length + 2 < k by omega) hl hu]
theorem slice_len {l : List Int} (a b : Nat) : ((l.take b).drop a).length ≤ l.length := by simp only [List.length_drop, List.length_take]; omega
theorem f128_eq {k : Nat} {l : List Int} (hk : 2 < k) (hl : (l.length : Int) ≤ 100000) {a n : Int} (ha : 0 ≤ a) (hn : 0 ≤ n) (hb : a + n ≤ l.length) (st id : Int) (nm : ByteArray) (nx : Int) (hs : List Rg) (wt tr : Int)
    (K : Int → Int → ByteArray → Int → Int → Int → Bool → List Int → Option R) : f128 k st id nm l nx hs wt tr a n K = K 2 id ⟨#[]⟩ 0 0 a false ((l.take (a + n).toNat).drop a.toNat) := by
  rw [f128_def]
  obtain ⟨k, rfl⟩ := succ_of hk
  simp only [f128d]
  rw [wi (n := a + n) (by omega) (by omega)]
  have h1 : decide (0 ≤ a) = true := by simp only [decide_eq_true_eq]; omega
  have h2 : decide (a ≤ a + n) = true := by simp only [decide_eq_true_eq]; omega
  have h3 : decide (a + n ≤ (l.length : Int)) = true := by simp only [decide_eq_true_eq]; omega
  have := slice_len (l := l) a.toNat (a + n).toNat
  simp only [h1, h2, h3, Bool.and_self, cond_true, f77_eq (l := (l.take (a + n).toNat).drop a.toNat) (show 0 < k by omega) (by omega)]
theorem f118_eq {k : Nat} {l : List Rg} (hk : 0 < k) (hl : l.length ≤ 1000000000) (K : List Rg → Option R) : f118 k false l K = K l := by
  rw [f118_def]
  obtain ⟨k, rfl⟩ := succ_of hk
  have : decide (([] : List Rg).length + l.length ≤ LIM 16) = true := by rw [LIM16]; simp only [decide_eq_true_eq, List.length_nil]; omega
  simp only [f118d, f118_1000003_def, f118_1000003d, cond_false, this, cond_true, List.nil_append]
theorem mn_sub {a seg b : Int} : a + mn seg (b - a) = mn (a + seg) b := by unfold mn; split <;> split <;> omega
theorem f108_eq {k : Nat} (seg x2 x3 wait x5 : Int) (s : Sd) (hg : 1 ≤ seg ∧ seg ≤ 4096) (hi : SInv s) (hk : s.dat.length + 10 < k)
    (K : Int → Int → ByteArray → List Int → Int → List Rg → Int → Int → Int → Int → ByteArray → Int → Int → Int → Bool → List Int → Option R) :
    f108 k seg x2 x3 wait x5 s.st s.id s.nm s.dat s.nx s.hs s.wt s.tr K = apSL K (oneS seg wait s) := by
  obtain ⟨h1, h2, h3, h4, h5, h6⟩ := hi
  rw [f108_def]
  obtain ⟨k, rfl⟩ := succ_of hk
  simp only [f108d, f104_def, f64_eq (show s.dat.length + 2 < k by omega) h1 h2, f107_eq (show s.dat.length + 3 < k by omega) h1 h2, beq_dec, oneS]
  by_cases e1 : s.nx < 0
  · have : s.nx = -1 := by omega
    simp only [this, decide_true, cond_true]
    simp [apSL, metaL]
  · have e1' : ¬ s.nx = -1 := by omega
    simp only [e1, e1', decide_false, cond_false, if_false]
    obtain ⟨k, rfl⟩ := succ_of (show 0 < k by omega)
    simp only [f104d]
    have hw0 : IntKind.i64.wrap (s.dat.length - s.nx) = s.dat.length - s.nx := wi (by omega) (by omega)
    cases e : s.hs with
    | nil =>
      have hh : headF ([] : List Rg) = false := rfl
      have z1 : decide (((([] : List Rg)).length : Int) > 0) = false := by simp
      simp only [z1, hh, Bool.false_eq_true, if_false, cond_false]
      rw [show (false == true) = false from rfl]
      simp only [cond_false, hw0]
      by_cases e2 : s.nx < s.dat.length
      · have hm : mn seg (s.dat.length - s.nx) = if seg < s.dat.length - s.nx then seg else s.dat.length - s.nx := rfl
        rw [← hm]
        have hm0 : 0 ≤ mn seg (s.dat.length - s.nx) := by unfold mn; split <;> omega
        have hm1 : s.nx + mn seg (s.dat.length - s.nx) ≤ s.dat.length := by unfold mn; split <;> omega
        rw [wi (n := s.nx + mn seg (s.dat.length - s.nx)) (by omega) (by omega)]
        simp only [e2, decide_true, cond_true, if_true, f128_eq (show 2 < k + 1 by omega) h1 (show 0 ≤ s.nx by omega) hm0 hm1, apSL, dataL, mn_sub, e]
      · simp only [e2, decide_false, cond_false, if_false, apSL, endL, e]
    | cons x r =>
      have z1 : decide (((x :: r).length : Int) > 0) = true := by simp only [decide_eq_true_eq, List.length_cons]; omega
      have z2 : decide (0 < ((x :: r).length : Int)) = true := by simp only [decide_eq_true_eq, List.length_cons]; omega
      have z3 : decide (1 ≤ ((x :: r).length : Int)) = true := by simp only [decide_eq_true_eq, List.length_cons]; omega
      rw [e] at h5 h6
      simp only [List.length_cons] at h5
      simp only [z1, z2, z3, cond_true, beq_self_eq_true, List.getD_cons_zero, Bool.and_true]
      cases hh : headF (x :: r)
      · have hh' : (decide (x.1 = -1) && decide (x.2.1 = 0)) = false := hh
        rw [cutF_of hh] at h6
        obtain ⟨hx1, hx2, hx3⟩ := h6 x (by simp)
        rw [wi (n := x.2.1 - x.1) (by omega) (by omega)]
        have hm : mn seg (x.2.1 - x.1) = if seg < x.2.1 - x.1 then seg else x.2.1 - x.1 := rfl
        rw [← hm]
        have hm0 : 0 ≤ mn seg (x.2.1 - x.1) := by unfold mn; split <;> omega
        have hm1 : x.1 + mn seg (x.2.1 - x.1) ≤ s.dat.length := by unfold mn; split <;> omega
        simp only [hh', cond_false, f128_eq (show 2 < k + 1 by omega) h1 hx1 hm0 hm1, f109_eq (l := x :: r) (show 0 < k + 1 by omega) (by simp only [List.length_cons]; omega), z2, cond_true, List.getD_cons_zero,
          List.set_cons_zero, List.length_cons]
        rw [wi (n := x.1 + mn seg (x.2.1 - x.1)) (by omega) (by omega), mn_sub]
        have z4 : decide (0 < (((r.length + 1 : Nat)) : Int)) = true := by simp only [decide_eq_true_eq]; omega
        have z5 : decide (1 ≤ (((r.length + 1 : Nat)) : Int)) = true := by simp only [decide_eq_true_eq]; omega
        simp only [z4, z5, cond_true, f108_1000018_def, f108_1000018d, List.length_cons, List.drop_succ_cons, List.drop_zero, Nat.add_sub_cancel, List.take_length]
        by_cases e3 : mn (x.1 + seg) x.2.1 = x.2.1
        · have e4 : ¬ mn (x.1 + seg) x.2.1 < x.2.1 := by omega
          simp only [e3, decide_true, cond_true, Int.lt_irrefl, if_false, apSL, dataL, Bool.false_eq_true]
        · have e4 : mn (x.1 + seg) x.2.1 < x.2.1 := by 
            have : mn (x.1 + seg) x.2.1 ≤ x.2.1 := by unfold mn; split <;> omega
            omega
          simp only [e3, decide_false, cond_false, e4, if_true, if_false, apSL, dataL, Bool.false_eq_true]
      · have hh' : (decide (x.1 = -1) && decide (x.2.1 = 0)) = true := hh
        simp only [hh', cond_true, if_true, List.drop_succ_cons, List.drop_zero, f109_eq (l := r) (show 0 < k + 1 by omega) (by omega), f64_eq (show s.dat.length + 2 < k + 1 by omega) h1 h2, apSL, metaL, cutF, hh]
end Go.Proofs.Ytlcklflbhhnnhaa.PM

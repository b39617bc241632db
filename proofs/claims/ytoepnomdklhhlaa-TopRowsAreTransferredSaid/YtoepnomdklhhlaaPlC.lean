/- Merged plain texts: PlTake, PlStay, PlRmatch, PlRok, PlRstay. -/
import Derived.Test.YtoepnomdklhhlaaPlB
/- Plain laws of senders: what they do with a letter. -/
set_option linter.unusedSimpArgs false
set_option linter.unusedVariables false
namespace Go.Proofs.Ytoepnomdklhhlaa.PM
open Go Go.Proofs.Ytoepnomdklhhlaa.Bt
variable {R : Type}

def fitF (nx : Int) (l : List Rg) : List Rg := l.filter fun x => decide (x.2.1 ≤ nx)
theorem fitF_len (nx : Int) (l : List Rg) : (fitF nx l).length ≤ l.length := List.length_filter_le _ _
theorem fit_step (nx : Int) (l : List Rg) {i : Nat} (h : i < l.length) : fitF nx (l.take (i + 1)) = fitF nx (l.take i) ++ (if (l[i]).2.1 ≤ nx then [l[i]] else []) := by
 unfold fitF
 rw [List.take_succ_eq_append_getElem h, List.filter_append]
 congr 1
 by_cases q : (l[i]).2.1 ≤ nx
 ·rw [if_pos q, List.filter_cons, if_pos (by simpa using q)]; rfl
 ·rw [if_neg q, List.filter_cons, if_neg (by simpa using q)]; rfl
theorem f43_loop (k : Nat) (x0 : List Rg → Option R) (z0 : Bool) (z1 : List Rg) (z2 : Bool) (l : List Rg) (z6 z7 : Int) (z8 : ByteArray) (z9 : List Int) (nx : Int) (z11 : List Rg) (z12 z13 z14 z15 : Int) (z16 : ByteArray) (z17 z18 z19 : Int) (hl : l.length ≤ 100000) : ∀ (d f i : Nat), i + d = l.length → d < f →
  f43_0d k x0 z0 z1 z2 l (l.length : Int) z6 z7 z8 z9 nx z11 z12 z13 z14 z15 z16 z17 z18 z19 f (i : Int) (fitF nx (l.take i)) = x0 (fitF nx l)
 | d, 0, i, _, h => absurd h (Nat.not_lt_zero _)
 | 0, f + 1, i, hi, _ => by
   have h1 : decide ((i : Int) < (l.length : Int)) = false := by simp only [decide_eq_false_iff_not]; omega
   simp only [f43_0d, f43_0b, h1, cond_false]
   rw [List.take_of_length_le (by omega)]
 | d + 1, f + 1, i, hi, hf => by
   have h1 : decide ((i : Int) < (l.length : Int)) = true := by simp only [decide_eq_true_eq]; omega
   have h0 : decide ((0 : Int) ≤ (i : Int)) = true := by simp
   have hw : IntKind.i64.wrap ((i : Int) + 1) = ((i + 1 : Nat) : Int) := by rw [wi (by omega) (by omega)]; omega
   have hli : i < l.length := by omega
   have hg : l.getD (Int.toNat (i : Int)) (0, (0, ())) = l[i] := getD_in hli
   have ih := f43_loop k x0 z0 z1 z2 l z6 z7 z8 z9 nx z11 z12 z13 z14 z15 z16 z17 z18 z19 hl d f (i + 1) (by omega) (by omega)
   rw [fit_step nx l hli] at ih
   have hlen := fitF_len nx (l.take i)
   rw [List.length_take] at hlen
   have hL : decide ((fitF nx (l.take i)).length + ([((l[i]).1, ((l[i]).2.1, ()))] : List Rg).length ≤ LIM 16) = true := by rw [LIM16]; simp only [decide_eq_true_eq, List.length_singleton]; omega
   simp only [f43_0d, f43_0b, hg, h1, h0, cond_true, Bool.and_self, hw, f43_1000008_def, f43_1000008d, hL]
   by_cases q : (l[i]).2.1 ≤ nx
   ·rw [if_pos q] at ih
    simp only [q, decide_true, cond_true]
    exact ih
   ·rw [if_neg q, List.append_nil] at ih
    simp only [q, decide_false, cond_false]
    exact ih
theorem can_weak : ∀ {a b : Int} {l : List Rg}, a ≤ b → Can b l → Can a l
 | _, _, [], _, _ => trivial
 | a, b, x :: l, h, ⟨h1, h2, h3⟩ => ⟨by omega, h2, h3⟩
theorem can_filter (p : Rg → Bool) : ∀ {a : Int} {l : List Rg}, Can a l → Can a (l.filter p)
 | _, [], _ => trivial
 | a, x :: l, ⟨h1, h2, h3⟩ => by
   rw [List.filter_cons]
   split
   ·exact ⟨h1, h2, can_filter p h3⟩
   ·exact can_weak (by omega) (can_filter p h3)
theorem fit_ok {lim nx n : Int} {l : List Rg} (h : LOk lim l) (hn : nx ≤ n) (hb : 0 ≤ n ∧ n ≤ 100000) : LOk n (fitF nx l) := by
 have hl := fitF_len nx l
 have := h.len
 refine ⟨hb, by omega, can_filter _ h.can, fun x hx => ?_⟩
 unfold fitF at hx
 have := (List.mem_filter.1 hx).2
 rw [decide_eq_true_eq] at this
 omega
theorem chkLetter_hole {num : Int} {s : ByteArray} {a b c : Int} {l : List Int} {rs : List Rg} {f : Bool} (h : chkLetter 4 num s a b c l rs f = 0) : LOk 100000 (cutF rs) := by
 unfold chkLetter at h
 by_cases h1 : inB 4 1 6 = false
 ·rw [if_pos h1] at h; cases h
 ·rw [if_neg h1] at h
  by_cases h2 : inB num 0 65535 = false
  ·rw [if_pos h2] at h; cases h
  ·rw [if_neg h2] at h
   by_cases h3 : extra 4 (emp s) a b c l.length rs.length f = true
   ·rw [if_pos h3] at h; cases h
   ·rw [if_neg h3, if_neg (fun q => absurd q.1 (by decide)), if_neg (by decide), if_neg (by decide), if_pos rfl] at h
    by_cases h4 : rs.length = 0
    ·rw [if_pos h4] at h; cases h
    ·rw [if_neg h4] at h; exact chk_ok h
/-! what is asked for -/
noncomputable def askF (s : Sd) (rs : List Rg) : List Rg := jn (cutF s.hs) (fitF s.nx (cutF rs))
noncomputable def agF (s : Sd) (rs : List Rg) : List Rg := bif headF s.hs || (headF rs && !decide (s.nx = -1)) then (-1, (0, ())) :: askF s rs else askF s rs
noncomputable def askS (s : Sd) (rs : List Rg) : Sd × Int :=
 if 2000 < (askF s rs).length then (zS, 2) else (⟨bif decide ((agF s rs).length = 0) then s.st else 1, s.id, s.nm, s.dat, s.nx, agF s rs, bif decide ((agF s rs).length = 0) then s.wt else 0, 0⟩, 0)
def apS9 (K : Int → Int → ByteArray → List Int → Int → List Rg → Int → Int → Int → Option R) (x : Sd × Int) : Option R := K x.1.st x.1.id x.1.nm x.1.dat x.1.nx x.1.hs x.1.wt x.1.tr x.2
theorem f43_eq {k : Nat} (s : Sd) (rs : List Rg) (hs : LOk s.dat.length (cutF s.hs)) (hr : LOk 100000 (cutF rs)) (hn : -1 ≤ s.nx ∧ s.nx ≤ s.dat.length) (hk : 9000 < k) (K : Int → Int → ByteArray → List Int → Int → List Rg → Int → Int → Int → Option R) :
  f43 k s.st s.id s.nm s.dat s.nx s.hs s.wt s.tr rs K = apS9 K (askS s rs) := by
 rw [f43_def]
 obtain ⟨k, rfl⟩ := succ_of (show 0 < k by omega)
 have hf := fit_ok hr hn.2 hs.bnd
 have l1 := hr.len
 have l2 := hs.len
 have l3 := hf.len
 simp only [f43d, f52_eq (show 1 < k by omega), f43_0_def]
 refine (f43_loop k _ _ _ _ (cutF rs) s.st s.id s.nm s.dat s.nx s.hs s.wt s.tr 0 0 ⟨#[]⟩ 0 0 0 (by omega) (cutF rs).length k 0 (by omega) (by omega)).trans ?_
 rw [f50_eq hs.len hf.len (sortOk_of hs hf) (show 5000 < k by omega)]
 have ea : jn (cutF s.hs) (fitF s.nx (cutF rs)) = askF s rs := rfl
 rw [ea]
 by_cases h3 : 2000 < (askF s rs).length
 ·have hv : askS s rs = (zS, 2) := by unfold askS; rw [if_pos h3]
  simp only [d2000, h3, decide_true, cond_true, hv, apS9, zS]
 ·have hv : askS s rs = (⟨bif decide ((agF s rs).length = 0) then s.st else 1, s.id, s.nm, s.dat, s.nx, agF s rs, bif decide ((agF s rs).length = 0) then s.wt else 0, 0⟩, 0) := by unfold askS; rw [if_neg h3]
  simp only [d2000, h3, decide_false, cond_false, hv, apS9, f51_eq (show 8 < k by omega) (askF s rs) (by omega), f43_1000016_def, f43_1000016d, bne_dec, lenpos]
  have hag : agF s rs = bif headF s.hs || (headF rs && !decide (s.nx = -1)) then (-1, (0, ())) :: askF s rs else askF s rs := rfl
  rw [hag]
  generalize headF s.hs = p, headF rs = q, decide (s.nx = -1) = r
  cases p <;> cases q <;> cases r <;> (try rfl) <;> simp only [Bool.false_or, Bool.true_or, Bool.or_false, Bool.and_true, Bool.and_false, Bool.not_true, Bool.not_false, Bool.false_and, Bool.true_and, cond_true, cond_false, beq_self_eq_true, show (true == false) = false from rfl, show (false == true) = false from rfl] <;>
   cases decide ((askF s rs).length = 0) <;> rfl
/-! a letter -/
noncomputable def hearS (s : Sd) (kind id : Int) (rs : List Rg) (f : Bool) : Sd × Int :=
 bif !decide (id = s.id) || decide (s.st = 3) || decide (s.st = 4) then (s, 0)
 else bif decide (kind = 4) then askS s rs
 else bif decide (kind = 5) && f then ({ s with st := 3, hs := [], wt := 0 }, 0)
 else bif decide (kind = 5) || decide (kind = 6) then ({ s with st := 4, hs := [], wt := 0 }, 0) else (s, 0)
theorem f31_eq {k : Nat} (s : Sd) (kind id : Int) (nm : ByteArray) (x y z : Int) (l : List Int) (rs : List Rg) (f : Bool) (hs : LOk s.dat.length (cutF s.hs)) (hr : kind = 4 → LOk 100000 (cutF rs)) (hn : -1 ≤ s.nx ∧ s.nx ≤ s.dat.length) (hk : 9010 < k)
  (K : Int → Int → ByteArray → List Int → Int → List Rg → Int → Int → Int → Option R) : f31 k s.st s.id s.nm s.dat s.nx s.hs s.wt s.tr kind id nm x y z l rs f K = apS9 K (hearS s kind id rs f) := by
 rw [f31_def]
 obtain ⟨k, rfl⟩ := succ_of (show 0 < k by omega)
 simp only [f31d, bne_dec, beq_dec, f31_1000006_def, f31_1000006d, f31_1000008_def, f31_1000008d, hearS]
 cases decide (id = s.id)
 ·rfl
 ·cases decide (s.st = 3)
  ·cases decide (s.st = 4)
   ·by_cases h4 : kind = 4
    ·subst h4
     simp only [decide_true, cond_true, cond_false, Bool.not_true, Bool.or_self, beq_self_eq_true, f43_eq s rs hs (hr rfl) hn (show 9000 < k by omega)]
    ·simp only [h4, decide_false, cond_false]
     cases decide (kind = 5) <;> cases decide (kind = 6) <;> cases f <;> rfl
   ·rfl
  ·rfl
end Go.Proofs.Ytoepnomdklhhlaa.PM
/- Plain laws of senders: they stay right. -/
set_option linter.unusedSimpArgs false
set_option linter.unusedVariables false
namespace Go.Proofs.Ytoepnomdklhhlaa.PM
open Go Go.Proofs.Ytoepnomdklhhlaa.Bt
variable {R : Type}

structure Gd (s : Sd) : Prop where
 file : chkFile s.id s.nm s.dat.length = 0
 st : 1 ≤ s.st ∧ s.st ≤ 4
 nx : -1 ≤ s.nx ∧ s.nx ≤ s.dat.length
 wt : 0 ≤ s.wt ∧ s.wt ≤ 1000000
 tr : 0 ≤ s.tr ∧ s.tr ≤ 50
 hs : LOk s.dat.length (cutF s.hs)
 two : s.st = 2 → s.nx = s.dat.length ∧ s.hs = [] ∧ s.wt ≠ 0
 oth : s.st ≠ 2 → s.wt = 0
theorem of_gd {s : Sd} (h : Gd s) : chkSend s = 0 := by
 have h2 : inB s.st 1 4 = true := inB_iff.2 h.st
 have h3 : inB s.nx (-1) s.dat.length = true := inB_iff.2 h.nx
 have h4 : inB s.wt 0 1000000 = true := inB_iff.2 h.wt
 have h5 : inB s.tr 0 50 = true := inB_iff.2 h.tr
 have h6 := ok_chk h.hs
 unfold chkSend
 rw [if_neg (not_not_intro h.file), h2, if_neg (by simp), h3, if_neg (by simp), h4, if_neg (by simp), h5, if_neg (by simp), if_neg (not_not_intro h6)]
 by_cases q : s.st = 2
 ·obtain ⟨a, b, c⟩ := h.two q
  rw [if_pos q, if_pos ⟨a, by rw [b]; rfl, c⟩]
 ·rw [if_neg q, if_pos (h.oth q)]
theorem file_ok {id : Int} {nm : ByteArray} {n : Nat} (h : chkFile id nm n = 0) : inB id 0 65535 = true ∧ nameOk nm = true ∧ n ≤ 100000 := by
 unfold chkFile at h
 by_cases h1 : inB id 0 65535 = false
 ·rw [if_pos h1] at h; cases h
 ·rw [if_neg h1] at h
  by_cases h2 : nameOk nm = false
  ·rw [if_pos h2] at h; cases h
  ·rw [if_neg h2] at h
   by_cases h3 : 100000 < n
   ·rw [if_pos h3] at h; cases h
   ·exact ⟨by simpa using h1, by simpa using h2, by omega⟩
theorem sumOf_in (l : List Int) : inB (sumOf l) 0 4294967295 = true := inB_iff.2 (by unfold sumOf; omega)
noncomputable def chkLt (x : Lt) : Int := chkLetter x.1 x.2.1 x.2.2.1 x.2.2.2.1 x.2.2.2.2.1 x.2.2.2.2.2.1 x.2.2.2.2.2.2.1 x.2.2.2.2.2.2.2.1 x.2.2.2.2.2.2.2.2.1
theorem emp0 : emp (⟨#[]⟩ : ByteArray) = true := by rw [emp_size]; rfl
theorem metaL_ok {s : Sd} (h : Gd s) : chkLt (metaL s) = 0 := by
 obtain ⟨f1, f2, fX3⟩ := file_ok h.file
 have hsz : inB (s.dat.length : Int) 0 100000 = true := inB_iff.2 (by omega)
 show chkLetter 1 s.id s.nm s.dat.length (sumOf s.dat) 0 [] [] false = 0
 unfold chkLetter
 have he : extra 1 (emp s.nm) (s.dat.length : Int) (sumOf s.dat) 0 ([] : List Int).length ([] : List Rg).length false = false := by simp [extra]
 rw [if_neg (by decide), f1, if_neg (by simp), he, if_neg (by simp), f2, if_neg (by simp), if_pos (Or.inl rfl), if_pos ⟨hsz, sumOf_in _⟩]
theorem endL_ok {s : Sd} (h : Gd s) : chkLt (endL s) = 0 := by
 obtain ⟨f1, f2, fX3⟩ := file_ok h.file
 have hsz : inB (s.dat.length : Int) 0 100000 = true := inB_iff.2 (by omega)
 show chkLetter 3 s.id ⟨#[]⟩ s.dat.length (sumOf s.dat) 0 [] [] false = 0
 unfold chkLetter
 have he : extra 3 (emp (⟨#[]⟩ : ByteArray)) (s.dat.length : Int) (sumOf s.dat) 0 ([] : List Int).length ([] : List Rg).length false = false := by rw [emp0]; simp [extra]
 rw [if_neg (by decide), f1, if_neg (by simp), he, if_neg (by simp), if_neg (fun q => absurd q.1 (by decide)), if_pos (Or.inr rfl), if_pos ⟨hsz, sumOf_in _⟩]
theorem stopL_ok {s : Sd} (h : Gd s) : chkLt (stopL s) = 0 := by
 obtain ⟨f1, f2, fX3⟩ := file_ok h.file
 show chkLetter 6 s.id ⟨#[]⟩ 0 0 0 [] [] false = 0
 unfold chkLetter
 have he : extra 6 (emp (⟨#[]⟩ : ByteArray)) 0 0 0 ([] : List Int).length ([] : List Rg).length false = false := by rw [emp0]; simp [extra]
 rw [if_neg (by decide), f1, if_neg (by simp), he, if_neg (by simp), if_neg (fun q => absurd q.1 (by decide)), if_neg (by decide), if_neg (by decide), if_neg (by decide)]
theorem dataL_ok {s : Sd} (h : Gd s) {a b : Int} (ha : 0 ≤ a) (hab : a < b) (hb : b ≤ s.dat.length) (h4 : b ≤ a + 4096) : chkLt (dataL s a b) = 0 := by
 obtain ⟨f1, f2, fX3⟩ := file_ok h.file
 have hl : ((s.dat.take b.toNat).drop a.toNat).length = (b - a).toNat := by rw [List.length_drop, List.length_take]; omega
 show chkLetter 2 s.id ⟨#[]⟩ 0 0 a ((s.dat.take b.toNat).drop a.toNat) [] false = 0
 unfold chkLetter
 have he : extra 2 (emp (⟨#[]⟩ : ByteArray)) 0 0 a ((s.dat.take b.toNat).drop a.toNat).length ([] : List Rg).length false = false := by rw [emp0]; simp [extra]
 have hin : inB a 0 100000 = true := inB_iff.2 (by omega)
 rw [if_neg (by decide), f1, if_neg (by simp), he, if_neg (by simp), if_neg (fun q => absurd q.1 (by decide)), if_neg (by decide), if_pos rfl, hin, if_neg (by simp), hl, if_neg (by omega), if_neg (by omega), if_neg (by omega)]
theorem can_headF {l : List Rg} (h : Can (-1) l) : headF l = false := by
 cases l with
 | nil => rfl
 | cons x l =>
   have := h.1
   have h1 : ¬ x.1 = -1 := by omega
   simp [headF, h1]
theorem cut_of {n : Int} {l : List Rg} (h : LOk n l) : cutF l = l := cutF_of (can_headF h.can)
theorem one_gd {seg wait : Int} (hg : 1 ≤ seg ∧ seg ≤ 4096) (hw : 1 ≤ wait ∧ wait ≤ 1000000) {s : Sd} (h : Gd s) (h1 : s.st = 1) :
  Gd (oneS seg wait s).1 ∧ chkLt (oneS seg wait s).2 = 0 ∧ (oneS seg wait s).2.2.1 = s.id ∧ (oneS seg wait s).1.id = s.id ∧ (oneS seg wait s).1.nm = s.nm ∧ (oneS seg wait s).1.dat = s.dat := by
 have hwt := h.oth (by omega)
 obtain ⟨f1, f2, fX3⟩ := file_ok h.file
 have hn := h.nx
 have hl := h.hs
 unfold oneS
 split
 ·exact ⟨⟨h.file, h.st, ⟨by show (-1 : Int) ≤ 0; omega, by show (0 : Int) ≤ s.dat.length; omega⟩, h.wt, h.tr, h.hs, fun q => (by have q' : s.st = 2 := q; omega), fun _ => hwt⟩, metaL_ok h, rfl, rfl, rfl, rfl⟩
 ·split
  ·refine ⟨⟨h.file, h.st, h.nx, h.wt, h.tr, ?_, fun q => (by have q' : s.st = 2 := q; omega), fun _ => hwt⟩, metaL_ok h, rfl, rfl, rfl, rfl⟩
   show LOk s.dat.length (cutF (cutF s.hs))
   rw [cut_of hl]; exact hl
  ·rename_i hn0 hh
   have hh : headF s.hs = false := by simpa using hh
   rw [cutF_of hh] at hl
   split
   ·rename_i x r e
    rw [e] at hl
    obtain ⟨c1, c2, c3⟩ := hl.can
    have hx := hl.upto x (by simp)
    have hlen := hl.len
    simp only [List.length_cons] at hlen
    have m1 : x.1 < mn (x.1 + seg) x.2.1 := by unfold mn; split <;> omega
    have m2 : mn (x.1 + seg) x.2.1 ≤ x.2.1 := by unfold mn; split <;> omega
    have m3 : mn (x.1 + seg) x.2.1 ≤ x.1 + 4096 := by unfold mn; split <;> omega
    refine ⟨⟨h.file, h.st, h.nx, h.wt, h.tr, ?_, fun q => (by have q' : s.st = 2 := q; omega), fun _ => hwt⟩, dataL_ok h (by omega) m1 (by omega) m3, rfl, rfl, rfl, rfl⟩
    show LOk s.dat.length (cutF (if mn (x.1 + seg) x.2.1 < x.2.1 then (mn (x.1 + seg) x.2.1, (x.2.1, ())) :: r else r))
    have hnew : LOk s.dat.length (if mn (x.1 + seg) x.2.1 < x.2.1 then (mn (x.1 + seg) x.2.1, (x.2.1, ())) :: r else r) := by
     split
     ·rename_i q
      refine ⟨hl.bnd, by simp only [List.length_cons]; omega, ⟨by show -1 < mn (x.1 + seg) x.2.1; omega, q, c3⟩, fun y hy => ?_⟩
      rcases List.mem_cons.1 hy with rfl | hy
      ·exact hx
      ·exact hl.upto y (by simp [hy])
     ·exact ⟨hl.bnd, by omega, can_weak (by omega) c3, fun y hy => hl.upto y (by simp [hy])⟩
    rw [cut_of hnew]; exact hnew
   ·rename_i e
    split
    ·rename_i q
     have m1 : s.nx < mn (s.nx + seg) s.dat.length := by unfold mn; split <;> omega
     have m2 : mn (s.nx + seg) s.dat.length ≤ s.dat.length := by unfold mn; split <;> omega
     have m3 : mn (s.nx + seg) s.dat.length ≤ s.nx + 4096 := by unfold mn; split <;> omega
     exact ⟨⟨h.file, h.st, ⟨by show -1 ≤ mn (s.nx + seg) s.dat.length; omega, m2⟩, h.wt, h.tr, h.hs, fun q => (by have q' : s.st = 2 := q; omega), fun _ => hwt⟩, dataL_ok h (by omega) m1 m2 m3, rfl, rfl, rfl, rfl⟩
    ·rename_i q
     exact ⟨⟨h.file, ⟨by show (1 : Int) ≤ 2; omega, by show (2 : Int) ≤ 4; omega⟩, h.nx, ⟨by show 0 ≤ wait; omega, hw.2⟩, h.tr, h.hs, fun _ => ⟨by show s.nx = s.dat.length; omega, e, by show wait ≠ 0; omega⟩, fun q => absurd rfl q⟩, endL_ok h, rfl, rfl, rfl, rfl⟩
theorem run_gd {seg wait : Int} (hg : 1 ≤ seg ∧ seg ≤ 4096) (hw : 1 ≤ wait ∧ wait ≤ 1000000) (id : Int) : ∀ (d : Nat) (s : Sd) (o : List Lt), Gd s → s.id = id → (∀ x ∈ o, chkLt x = 0 ∧ x.2.1 = id) →
  Gd (runS seg wait d s o).1 ∧ (∀ x ∈ (runS seg wait d s o).2, chkLt x = 0 ∧ x.2.1 = id) ∧ (runS seg wait d s o).2.length ≤ o.length + d ∧ (runS seg wait d s o).1.id = id ∧ (runS seg wait d s o).1.nm = s.nm ∧ (runS seg wait d s o).1.dat = s.dat
 | 0, s, o, h, hid, ho => ⟨h, ho, Nat.le_refl _, hid, rfl, rfl⟩
 | d + 1, s, o, h, hid, ho => by
   simp only [runS]
   by_cases q : s.st = 1
   ·rw [if_pos q]
    obtain ⟨g1, g2, g3, g4, g5, g6⟩ := one_gd hg hw h q
    obtain ⟨a1, a2, a3, a4, a5, a6⟩ := run_gd hg hw id d (oneS seg wait s).1 (o ++ [(oneS seg wait s).2]) g1 (by rw [g4]; exact hid) (fun x hx => by
     rcases List.mem_append.1 hx with hx | hx
     ·exact ho x hx
     ·rw [List.mem_singleton.1 hx]; exact ⟨g2, by rw [g3]; exact hid⟩)
    refine ⟨a1, a2, ?_, a4, by rw [a5, g5], by rw [a6, g6]⟩
    simp only [List.length_append, List.length_singleton] at a3
    omega
   ·rw [if_neg q]
    exact ⟨h, ho, by show o.length ≤ _; omega, hid, rfl, rfl⟩
theorem tick_gd {seg wait most : Int} {rate : Nat} (hr : 1 ≤ rate) (hg : 1 ≤ seg ∧ seg ≤ 4096) (hw : 1 ≤ wait ∧ wait ≤ 1000000) (hm : most ≤ 50) {s : Sd} (h : Gd s) :
  Gd (tickS seg rate wait most s).1 ∧ (∀ x ∈ (tickS seg rate wait most s).2, chkLt x = 0 ∧ x.2.1 = s.id) ∧ (tickS seg rate wait most s).2.length ≤ rate ∧ (tickS seg rate wait most s).1.id = s.id ∧ (tickS seg rate wait most s).1.nm = s.nm ∧ (tickS seg rate wait most s).1.dat = s.dat := by
 have hwt := h.wt
 have htr := h.tr
 unfold tickS
 split
 ·rename_i q
  obtain ⟨t1, t2, t3⟩ := h.two q
  split
  ·rename_i q2
   exact ⟨⟨h.file, h.st, h.nx, ⟨by show 0 ≤ s.wt - 1; omega, by show s.wt - 1 ≤ 1000000; omega⟩, h.tr, h.hs, fun _ => ⟨t1, t2, by show s.wt - 1 ≠ 0; omega⟩, fun q3 => absurd q q3⟩, by simp, by simp, rfl, rfl, rfl⟩
  ·rename_i q2
   split
   ·refine ⟨⟨h.file, ⟨by show (1 : Int) ≤ 4; omega, by show (4 : Int) ≤ 4; omega⟩, h.nx, ⟨by show 0 ≤ s.wt - 1; omega, by show s.wt - 1 ≤ 1000000; omega⟩, h.tr, h.hs, fun q3 => (by have q3' : (4 : Int) = 2 := q3; omega), fun _ => (by show s.wt - 1 = 0; omega)⟩, ?_, by simp; omega, rfl, rfl, rfl⟩
    intro x hx
    rw [List.mem_singleton.1 hx]; exact ⟨stopL_ok h, rfl⟩
   ·rename_i q3
    refine ⟨⟨h.file, h.st, h.nx, ⟨by show 0 ≤ wait; omega, hw.2⟩, ⟨by show 0 ≤ s.tr + 1; omega, by show s.tr + 1 ≤ 50; omega⟩, h.hs, fun _ => ⟨t1, t2, by show wait ≠ 0; omega⟩, fun q4 => absurd q q4⟩, ?_, by simp; omega, rfl, rfl, rfl⟩
    intro x hx
    rw [List.mem_singleton.1 hx]; exact ⟨endL_ok h, rfl⟩
 ·obtain ⟨a1, a2, a3, a4, a5, a6⟩ := run_gd hg hw s.id rate s [] h rfl (by simp)
  exact ⟨a1, a2, by simpa using a3, a4, a5, a6⟩
theorem hear_gd {s : Sd} {kind id : Int} {rs : List Rg} {f : Bool} (h : Gd s) (hr : kind = 4 → LOk 100000 (cutF rs)) (he : (hearS s kind id rs f).2 = 0) : Gd (hearS s kind id rs f).1 ∧ (hearS s kind id rs f).1.dat = s.dat := by
 have hn := h.nx
 unfold hearS at he ⊢
 generalize (!decide (id = s.id) || decide (s.st = 3) || decide (s.st = 4)) = b at he ⊢
 cases b
 ·by_cases h4 : kind = 4
  ·have d4 : decide (kind = 4) = true := by simp [h4]
   rw [d4] at he ⊢
   simp only [cond_true, cond_false] at he ⊢
   have hf := fit_ok (hr h4) hn.2 h.hs.bnd
   unfold askS at he ⊢
   by_cases h3 : 2000 < (askF s rs).length
   ·rw [if_pos h3] at he; cases he
   ·rw [if_neg h3]
    have hja : LOk s.dat.length (askF s rs) := jn_ok h.hs hf (show (askF s rs).length ≤ 2000 by omega)
    have hag : LOk s.dat.length (cutF (agF s rs)) := by
     unfold agF
     cases headF s.hs || (headF rs && !decide (s.nx = -1))
     ·rw [cond_false, cut_of hja]; exact hja
     ·rw [cond_true]
      have : cutF ((-1, (0, ())) :: askF s rs) = askF s rs := by simp [cutF, headF]
      rw [this]; exact hja
    by_cases hz : (agF s rs).length = 0
    ·have dz : decide ((agF s rs).length = 0) = true := by simp [hz]
     rw [dz]
     simp only [cond_true]
     have hnil := List.length_eq_zero_iff.1 hz
     exact ⟨⟨h.file, h.st, h.nx, h.wt, ⟨by show (0 : Int) ≤ 0; omega, by show (0 : Int) ≤ 50; omega⟩, hag, fun q => ⟨(h.two q).1, hnil, (h.two q).2.2⟩, h.oth⟩, by first | rfl | trivial⟩
    ·have dz : decide ((agF s rs).length = 0) = false := by simp [hz]
     rw [dz]
     simp only [cond_false]
     exact ⟨⟨h.file, ⟨by show (1 : Int) ≤ 1; omega, by show (1 : Int) ≤ 4; omega⟩, h.nx, ⟨by show (0 : Int) ≤ 0; omega, by show (0 : Int) ≤ 1000000; omega⟩, ⟨by show (0 : Int) ≤ 0; omega, by show (0 : Int) ≤ 50; omega⟩, hag, fun q => (by have q' : (1 : Int) = 2 := q; omega), fun _ => rfl⟩, by first | rfl | trivial⟩
  ·have d4 : decide (kind = 4) = false := by simp [h4]
   rw [d4] at he ⊢
   simp only [cond_false] at he ⊢
   have hnil : LOk s.dat.length (cutF []) := ⟨h.hs.bnd, by simp [cutF, headF], trivial, fun x hx => by simp [cutF, headF] at hx⟩
   cases decide (kind = 5) && f
   ·cases decide (kind = 5) || decide (kind = 6)
    ·exact ⟨h, rfl⟩
    ·exact ⟨⟨h.file, ⟨by show (1 : Int) ≤ 4; omega, by show (4 : Int) ≤ 4; omega⟩, h.nx, ⟨by show (0 : Int) ≤ 0; omega, by show (0 : Int) ≤ 1000000; omega⟩, h.tr, hnil, fun q => (by have q' : (4 : Int) = 2 := q; omega), fun _ => rfl⟩, rfl⟩
   ·exact ⟨⟨h.file, ⟨by show (1 : Int) ≤ 3; omega, by show (3 : Int) ≤ 4; omega⟩, h.nx, ⟨by show (0 : Int) ≤ 0; omega, by show (0 : Int) ≤ 1000000; omega⟩, h.tr, hnil, fun q => (by have q' : (3 : Int) = 2 := q; omega), fun _ => rfl⟩, rfl⟩
 ·exact ⟨h, rfl⟩
end Go.Proofs.Ytoepnomdklhhlaa.PM
/- Plain laws of receivers: Waiting, CheckReceiving and Take are as specified. -/
set_option linter.unusedSimpArgs false
set_option linter.unusedVariables false
namespace Go.Proofs.Ytoepnomdklhhlaa.PM
open Go Go.Proofs.Ytoepnomdklhhlaa.Bt
variable {R : Type}
theorem endR_len (wait kind : Int) (r : Rv) (h : r.hv.length ≤ 2000) : (endR wait kind r).1.1.hv.length ≤ 2000 ∧ (∀ x ∈ (endR wait kind r).1.2, x.2.2.2.2.2.2.2.1.length ≤ 3000) ∧ (endR wait kind r).1.2.length ≤ 1 := by
 unfold endR
 split
 ·exact ⟨h, by simp [doneL], by simp⟩
 ·split
  ·exact ⟨h, by simp, by simp⟩
  ·split
   ·exact ⟨by simp [zR], by simp, by simp⟩
   ·refine ⟨h, ?_, by simp⟩
    intro x hx
    rw [List.mem_singleton] at hx
    subst hx
    have := lackF_len r
    show (lackF r).length ≤ 3000
    omega
theorem tkR_len (wait : Int) (r : Rv) (kind id : Int) (nm : ByteArray) (size sum : Int) (fr : Nat) (b : List Int) (h : r.hv.length ≤ 2000) :
  (tkR wait r kind id nm size sum fr b).1.1.hv.length ≤ 2000 ∧ (∀ x ∈ (tkR wait r kind id nm size sum fr b).1.2, x.2.2.2.2.2.2.2.1.length ≤ 3000) ∧ (tkR wait r kind id nm size sum fr b).1.2.length ≤ 1 := by
 unfold tkR
 split
 ·exact ⟨h, by simp, by simp⟩
 split
 ·refine ⟨h, ?_, ?_⟩
  ·intro x hx
   simp only at hx
   split at hx
   ·simp at hx; subst hx; simp [doneL]
   ·cases hx
  ·simp only; split <;> simp
 split
 ·exact ⟨h, by simp, by simp⟩
 split
 ·exact ⟨h, by simp [stopR], by simp⟩
 split
 ·split
  ·exact ⟨by simp [zR], by simp, by simp⟩
  ·rename_i h2
   exact endR_len wait kind (busy (putR r fr b)) (by show (putH r.hv fr b.length).length ≤ 2000; omega)
 ·exact endR_len wait kind (busy (sizeR r kind nm size sum)) h
def waitR (id : Int) : Rv × Int := if inB id 0 65535 = true then (⟨0, id, ⟨#[]⟩, [], [], -1, 0, 0, 0⟩, 0) else (zR, 1)
theorem f16_eq {k : Nat} (hk : 1 < k) (id : Int) (K : Int → Int → ByteArray → Int → Int → Int → Int → Int → Option R) : f16 k id K = K (waitR id).1.st (waitR id).1.id (waitR id).1.nm (waitR id).1.sz (waitR id).1.sum (waitR id).1.wt (waitR id).1.tr (waitR id).2 := by
 rw [f16_def]
 obtain ⟨k, rfl⟩ := succ_of hk
 simp only [f16d, f9_eq (show 0 < k by omega), waitR]
 cases inB id 0 65535 <;> rfl
end Go.Proofs.Ytoepnomdklhhlaa.PM
/- Plain laws of receivers: what a receiver becomes is right. -/
set_option linter.unusedSimpArgs false
set_option linter.unusedVariables false
namespace Go.Proofs.Ytoepnomdklhhlaa.PM
open Go Go.Proofs.Ytoepnomdklhhlaa.Bt
variable {R : Type}
theorem lastT_of {lim : Int} {l : List Rg} (h : LOk lim l) {N : Int} (h1 : ∀ j, inR l j → j < N) (h2 : inR l (N - 1)) : lastT 0 l = N := by
 obtain ⟨x, hx, _, hx2⟩ := h2
 have hl := srt_last h.srt x hx
 have hne : l ≠ [] := fun e => by rw [e] at hx; cases hx
 have hlast : inR l (lastT 0 l - 1) := by
  have e := lastT_getD 0 l hne
  have hlen : l.length - 1 < l.length := by have := List.length_pos_iff.2 hne; omega
  rw [getD_in hlen] at e
  have hm := List.getElem_mem hlen
  have := h.ne _ hm
  exact ⟨l[l.length - 1], hm, by omega, by omega⟩
 have := h1 _ hlast
 omega
theorem inR_one {a b j : Int} : inR [(a, (b, ()))] j ↔ a ≤ j ∧ j < b := by simp [inR]
theorem put_in {dat : List Int} {hv : List Rg} {fr : Nat} {b : List Int} (h : PutOk dat hv fr b) (j : Int) : inR (putH hv fr b.length) j ↔ (inR hv j ∨ ((fr : Int) ≤ j ∧ j < (fr : Int) + b.length)) := by
 unfold putH
 rw [jn_in h.hv h.one, inR_one]
theorem put_ok {lim : Int} {dat : List Int} {hv : List Rg} {fr : Nat} {b : List Int} (h : PutOk dat hv fr b) (hl : LOk lim hv) (ht : (fr : Int) + b.length ≤ lim) (h2 : (putH hv fr b.length).length ≤ 2000) : LOk lim (putH hv fr b.length) := by
 have h1 := h.b1
 have ho : LOk lim [((fr : Int), ((fr : Int) + (b.length : Int), ()))] := ⟨hl.bnd, by simp, ⟨by simp only; omega, by simp only; omega, trivial⟩, fun x hx => by simp at hx; subst hx; exact ht⟩
 exact jn_ok hl ho h2
theorem put_last {lim : Int} {dat : List Int} {hv : List Rg} {fr : Nat} {b : List Int} (h : PutOk dat hv fr b) (hl : LOk lim hv) (hd : (dat.length : Int) = lastT 0 hv) (ho : LOk lim (putH hv fr b.length)) : ((putD dat hv fr b).length : Int) = lastT 0 (putH hv fr b.length) := by
 have h1 := h.b1
 refine (lastT_of ho ?_ ?_).symm
 ·intro j hj
  rw [putD_len]
  rcases (put_in h j).1 hj with ⟨x, hx, h2, h3⟩ | h2
  ·have := srt_last hl.srt x hx
   omega
  ·omega
 ·rw [putD_len, put_in h]
  by_cases c : dat.length ≤ fr + b.length
  ·right
   rw [Nat.max_eq_left c]
   omega
  ·left
   have hne : hv ≠ [] := fun e => by rw [e] at hd; have hd' : (dat.length : Int) = 0 := hd; omega
   have e := lastT_getD 0 hv hne
   have hlen : hv.length - 1 < hv.length := by have := List.length_pos_iff.2 hne; omega
   rw [getD_in hlen] at e
   have hm := List.getElem_mem hlen
   have := hl.ne _ hm
   exact ⟨hv[hv.length - 1], hm, by omega, by omega⟩
theorem padL_get (l : List Int) (n j : Nat) : (padL l n).getD j 0 = l.getD j 0 := by
 unfold padL
 rw [List.getD_eq_getElem?_getD, List.getD_eq_getElem?_getD]
 by_cases h : j < l.length
 ·rw [List.getElem?_append_left h]
 ·rw [List.getElem?_append_right (by omega), List.getElem?_replicate, List.getElem?_eq_none (by omega)]
  split <;> rfl
theorem putD_get (dat : List Int) (hv : List Rg) (fr : Nat) (b : List Int) (j : Nat) (hj : j < (putD dat hv fr b).length) : (putD dat hv fr b)[j] = if putP hv fr (fr + b.length) j = true then b.getD (j - fr) 0 else dat.getD j 0 := by
 have h1 : (putD dat hv fr b)[j]? = some (putD dat hv fr b)[j] := List.getElem?_eq_getElem hj
 have h2 : j < (padL dat (fr + b.length)).length := by rw [padL_len]; rw [putD_len] at hj; omega
 unfold putD at h1
 rw [ovr_get, if_pos h2] at h1
 have h3 := Option.some.inj h1
 rw [← padL_get dat (fr + b.length) j]
 exact h3.symm
theorem put_bad {dat : List Int} {hv : List Rg} {fr : Nat} {b : List Int} (h : PutOk dat hv fr b) (hb : badF hv dat 0 = false) : badF (putH hv fr b.length) (putD dat hv fr b) 0 = false := by
 rw [Bool.eq_false_iff]
 intro hc
 obtain ⟨j, hj, h1, h2⟩ := badF_iff.1 hc
 rw [Nat.zero_add] at h2
 rw [put_in h] at h2
 rw [putD_get] at h1
 split at h1
 ·rename_i hp
  simp only [putP, Bool.and_eq_true, decide_eq_true_eq] at hp
  exact h2 (.inr (by omega))
 ·have hlt : j < dat.length := by
   rcases Nat.lt_or_ge j dat.length with q | q
   ·exact q
   ·rw [List.getD_eq_getElem?_getD, List.getElem?_eq_none q] at h1
    exact absurd rfl h1
  rw [getD_in hlt] at h1
  have : badF hv dat 0 = true := badF_iff.2 ⟨j, hlt, h1, by rw [Nat.zero_add]; exact fun q => h2 (.inl q)⟩
  rw [hb] at this; cases this
/-- All but the state of a receiver that is right. -/
structure RCore (r : Rv) : Prop where
 id : 0 ≤ r.id ∧ r.id ≤ 65535
 nm : emp r.nm = true ∨ nameOk r.nm = true
 sz : -1 ≤ r.sz ∧ r.sz ≤ 100000
 sum : 0 ≤ r.sum ∧ r.sum ≤ 4294967295
 tr : 0 ≤ r.tr ∧ r.tr ≤ 50
 hv : LOk (if r.sz = -1 then 100000 else r.sz) r.hv
 dl : (r.dat.length : Int) = lastT 0 r.hv
 bad : badF r.hv r.dat 0 = false
 un : r.sz = -1 → r.sum = 0 ∧ emp r.nm = true
theorem RFull.core {r : Rv} (h : RFull r) : RCore r := ⟨h.id, h.nm, h.sz, h.sum, h.tr, h.hv, h.dl, h.bad, h.un⟩
theorem RCore.full {r : Rv} (h : RCore r) (h1 : 0 ≤ r.st ∧ r.st ≤ 4) (h2 : 0 ≤ r.wt ∧ r.wt ≤ 1000000) (h3 : stB (decide (r.st = 2)) (decide (r.wt = 0)) (decide (r.sz = -1)) (decide (r.st = 0)) (emp r.nm) (decide (r.dat.length = 0)) (decide (r.tr = 0)) (decide ((holesF r.hv r.sz).length = 0)) = false) : RFull r :=
 ⟨h.id, h1, h.nm, h.sz, h.sum, h2, h.tr, h.hv, h.dl, h.bad, h.un, h3⟩
theorem RFull.stop {r : Rv} (h : RFull r) : RFull { r with st := 4, wt := 0 } := by
 refine RCore.full (r := { r with st := 4, wt := 0 }) ⟨h.id, h.nm, h.sz, h.sum, h.tr, h.hv, h.dl, h.bad, h.un⟩ ⟨by simp, by simp⟩ ⟨by simp, by simp⟩ ?_
 simp [stB]
theorem RFull.asks {r : Rv} (h : RFull r) : (r.st = 2 → r.wt ≠ 0 ∧ r.sz ≠ -1 ∧ ¬ (emp r.nm = false ∧ (holesF r.hv r.sz).length = 0)) ∧ (r.st ≠ 2 → r.wt = 0) := by
 have h1 := h.state
 constructor
 ·intro e
  simp only [stB, e, decide_true, Bool.true_and, Bool.not_true, Bool.false_and, Bool.or_false, Bool.or_eq_false_iff] at h1
  simp at h1
  exact ⟨h1.1.1, h1.1.2, fun q => h1.2 q.1 (List.length_eq_zero_iff.1 q.2)⟩
 ·intro e
  simp only [stB, decide_eq_false e, Bool.false_and, Bool.not_false, Bool.true_and, Bool.false_or, Bool.or_eq_false_iff] at h1
  simp at h1
  exact h1.1
/-- What stands behind the bytes or the figures of a letter. -/
structure Mid (r : Rv) : Prop where
 core : RCore r
 st : 1 ≤ r.st ∧ r.st ≤ 2
 wt : 0 ≤ r.wt ∧ r.wt ≤ 1000000
 a2 : r.st = 2 → r.wt ≠ 0
 a1 : r.st ≠ 2 → r.wt = 0
theorem letter_done (r : Rv) (g : Bool) (h : 0 ≤ r.id ∧ r.id ≤ 65535) : chkLetter 5 r.id ⟨#[]⟩ 0 0 0 [] [] g = 0 := by
 have h1 : inB r.id 0 65535 = true := inB_iff.2 h
 have he : emp ⟨#[]⟩ = true := by rw [emp_size]; rfl
 unfold chkLetter
 rw [h1]
 cases g <;> simp [extra, he, inB]
theorem letter_stop (r : Rv) (h : 0 ≤ r.id ∧ r.id ≤ 65535) : chkLetter 6 r.id ⟨#[]⟩ 0 0 0 [] [] false = 0 := by
 have h1 : inB r.id 0 65535 = true := inB_iff.2 h
 have he : emp ⟨#[]⟩ = true := by rw [emp_size]; rfl
 unfold chkLetter
 rw [h1]
 simp [extra, he, inB]
theorem letter_hole {r : Rv} (h : RCore r) (hs : r.sz ≠ -1) (hl : (holesF r.hv r.sz).length ≤ 2000) (hne : ¬ (emp r.nm = false ∧ (holesF r.hv r.sz).length = 0)) : chkLetter 4 r.id ⟨#[]⟩ 0 0 0 [] (lackF r) false = 0 := by
 have h1 : inB r.id 0 65535 = true := inB_iff.2 h.id
 have he : emp ⟨#[]⟩ = true := by rw [emp_size]; rfl
 have hv := h.hv
 rw [if_neg hs] at hv
 have hc : chkRgs (cutF (lackF r)) 100000 = 0 := by
  rw [cutF_lack r hv.srt]
  have ho := holes_ok hv hl
  exact ok_chk ⟨by decide, ho.len, ho.can, fun x hx => by have := ho.upto x hx; have := h.sz; omega⟩
 have hn : ¬ (lackF r).length = 0 := by
  unfold lackF
  cases q : emp r.nm with
  | true => simp
  | false => simp only [cond_false]; exact fun e => hne ⟨q, e⟩
 unfold chkLetter
 rw [h1, hc]
 simp only [extra, he]
 simp [inB]
 intro e
 rw [e] at hn
 simp at hn
theorem busy_mid {r : Rv} (hc : RCore r) (hs : 0 ≤ r.st ∧ r.st ≤ 4) (hw : 0 ≤ r.wt ∧ r.wt ≤ 1000000) (ha1 : r.st = 2 → r.wt ≠ 0) (ha2 : r.st ≠ 2 → r.wt = 0) (h4 : r.st ≠ 4) (h3 : r.st ≠ 3) : Mid (busy r) := by
 refine ⟨⟨hc.id, hc.nm, hc.sz, hc.sum, hc.tr, hc.hv, hc.dl, hc.bad, hc.un⟩, ?_, hw, ?_, ?_⟩
 ·simp only [busy]; split <;> omega
 ·intro e
  simp only [busy] at e ⊢
  split at e
  ·omega
  ·exact ha1 e
 ·intro e
  simp only [busy] at e ⊢
  split at e
  ·exact ha2 (by omega)
  ·exact ha2 e
theorem endR_ok {wait kind : Int} {r : Rv} (h : Mid r) (hw : 1 ≤ wait ∧ wait ≤ 1000000) (hk : kind = 3 → r.sz ≠ -1) (h2 : r.st = 2 → r.sz ≠ -1) (he : (endR wait kind r).2 = 0) :
  RFull (endR wait kind r).1.1 ∧ (endR wait kind r).1.1.id = r.id ∧ (endR wait kind r).1.1.dat = r.dat ∧ (∀ x ∈ (endR wait kind r).1.2, chkLetter x.1 x.2.1 x.2.2.1 x.2.2.2.1 x.2.2.2.2.1 x.2.2.2.2.2.1 x.2.2.2.2.2.2.1 x.2.2.2.2.2.2.2.1 x.2.2.2.2.2.2.2.2.1 = 0 ∧ x.2.1 = r.id) := by
 have hc := h.core
 unfold endR at he ⊢
 split at he
 ·rename_i q
  rw [if_pos q]
  refine ⟨?_, rfl, rfl, fun x hx => ?_⟩
  ·refine RCore.full ⟨hc.id, hc.nm, hc.sz, hc.sum, hc.tr, hc.hv, hc.dl, hc.bad, hc.un⟩ ?_ ⟨by simp, by simp⟩ ?_
   ·simp only; split <;> omega
   ·simp only; split <;> simp [stB]
  ·simp at hx
   subst hx
   exact ⟨letter_done r _ hc.id, rfl⟩
 ·rename_i q
  rw [if_neg q]
  have hq : ¬ (emp r.nm = false ∧ 0 ≤ r.sz ∧ (holesF r.hv r.sz).length = 0) := fun e => q (by simp [e.1, e.2.1, List.length_eq_zero_iff.1 e.2.2])
  have hsz := hc.sz
  split at he
  ·rename_i q2
   rw [if_pos q2]
   have hst := h.st
   refine ⟨RCore.full (r := r) hc ⟨by omega, by omega⟩ h.wt ?_, rfl, rfl, fun x hx => by cases hx⟩
   have e0 : decide (r.st = 0) = false := decide_eq_false (by omega)
   by_cases c : r.st = 2
   ·have s1 := h2 c
    have hh : ¬ (emp r.nm = false ∧ (holesF r.hv r.sz).length = 0) := fun e => hq ⟨e.1, by omega, e.2⟩
    simp only [stB, c, e0, decide_true, decide_eq_false (h.a2 c), decide_eq_false s1, Bool.true_and, Bool.not_true, Bool.false_and, Bool.or_false, Bool.false_or]
    cases w : emp r.nm with
    | true => simp
    | false => simp; exact fun e => hh ⟨w, by rw [e]; rfl⟩
   ·simp [stB, c, e0, h.a1 c]
  ·rename_i q2
   have hk3 : kind = 3 := Classical.not_not.1 q2
   have s1 := hk hk3
   rw [if_neg q2]
   split at he
   ·cases he
   ·rename_i q3
    rw [if_neg q3]
    have hh : ¬ (emp r.nm = false ∧ (holesF r.hv r.sz).length = 0) := fun e => hq ⟨e.1, by omega, e.2⟩
    refine ⟨?_, rfl, rfl, fun x hx => ?_⟩
    ·refine RCore.full ⟨hc.id, hc.nm, hc.sz, hc.sum, hc.tr, hc.hv, hc.dl, hc.bad, hc.un⟩ ⟨by simp, by simp⟩ ⟨by simp only; omega, by simp only; omega⟩ ?_
     simp only [stB, decide_true, decide_eq_false (show ¬ wait = 0 by omega), decide_eq_false s1, Bool.true_and, Bool.not_true, Bool.false_and, Bool.or_false, Bool.false_or, decide_eq_false (show ¬ (2 : Int) = 0 by decide)]
     cases w : emp r.nm with
     | true => simp
     | false => simp; exact fun e => hh ⟨w, by rw [e]; rfl⟩
    ·simp at hx
     subst hx
     exact ⟨letter_hole hc s1 (by omega) hh, rfl⟩
theorem put_core {r : Rv} (hr : RFull r) {fr : Nat} {b : List Int} (h1 : 0 < b.length) (h2 : (fr : Int) + b.length ≤ 100000) (h3 : r.sz ≠ -1 → (fr : Int) + b.length ≤ r.sz) (hl : (putH r.hv fr b.length).length ≤ 2000) : RCore (putR r fr b) := by
 have hp := hr.put h1 (show fr + b.length ≤ 100000 by omega)
 have ho := put_ok hp hr.hv (by split <;> omega) hl
 have htr := hr.tr
 exact ⟨hr.id, hr.nm, hr.sz, hr.sum, by simp only [putR]; split <;> omega, ho, put_last hp hr.hv hr.dl ho, put_bad hp hr.bad, hr.un⟩
theorem size_core {r : Rv} (hr : RFull r) {kind : Int} {nm : ByteArray} {size sum : Int} (hs : 0 ≤ size ∧ size ≤ 100000) (hs2 : 0 ≤ sum ∧ sum ≤ 4294967295) (hn : kind = 1 → nameOk nm = true) (hd : (r.dat.length : Int) ≤ size) : RCore (sizeR r kind nm size sum) := by
 refine ⟨hr.id, ?_, ⟨by simp only [sizeR]; omega, hs.2⟩, hs2, hr.tr, ?_, hr.dl, hr.bad, fun e => by simp only [sizeR] at e; omega⟩
 ·simp only [sizeR]
  split
  ·rename_i e; exact .inr (hn e)
  ·exact hr.nm
 ·show LOk (if size = -1 then 100000 else size) r.hv
  rw [if_neg (show ¬ size = -1 by omega)]
  exact ⟨hs, hr.hv.len, hr.hv.can, fun x hx => by have := srt_last hr.hv.srt x hx; have := hr.dl; omega⟩
/-- What a letter makes of a right receiver is right, and its letters are. -/
theorem tkR_ok {wait : Int} {r : Rv} {kind id : Int} {nm : ByteArray} {size sum : Int} {fr : Nat} {b : List Int} (hr : RFull r) (hL : LFull kind id nm size sum fr b) (hw : 1 ≤ wait ∧ wait ≤ 1000000) (he : (tkR wait r kind id nm size sum fr b).2 = 0) :
  RFull (tkR wait r kind id nm size sum fr b).1.1 ∧ ((tkR wait r kind id nm size sum fr b).1.1.dat = r.dat ∨ (tkR wait r kind id nm size sum fr b).1.1.dat = putD r.dat r.hv fr b) ∧
   (∀ x ∈ (tkR wait r kind id nm size sum fr b).1.2, chkLetter x.1 x.2.1 x.2.2.1 x.2.2.2.1 x.2.2.2.2.1 x.2.2.2.2.2.1 x.2.2.2.2.2.2.1 x.2.2.2.2.2.2.2.1 x.2.2.2.2.2.2.2.2.1 = 0 ∧ x.2.1 = r.id) := by
 unfold tkR at he ⊢
 split at he
 ·rename_i q; rw [if_pos q]; exact ⟨hr, .inl rfl, fun x hx => by cases hx⟩
 rename_i q1
 rw [if_neg q1]
 have q1' := q1
 simp only [not_or, Classical.not_not] at q1'
 obtain ⟨k1, k2, k3⟩ := q1'
 split at he
 ·rename_i q; rw [if_pos q]
  refine ⟨hr, .inl rfl, fun x hx => ?_⟩
  simp only at hx
  split at hx
  ·simp at hx; subst hx; exact ⟨letter_done r _ hr.id, rfl⟩
  ·cases hx
 rename_i q2
 rw [if_neg q2]
 split at he
 ·rename_i q; rw [if_pos q]; exact ⟨hr.stop, .inl rfl, fun x hx => by cases hx⟩
 rename_i q3
 rw [if_neg q3]
 split at he
 ·rename_i q; rw [if_pos q]
  refine ⟨hr.stop, .inl rfl, fun x hx => ?_⟩
  simp at hx; subst hx; exact ⟨letter_stop r hr.id, rfl⟩
 rename_i q4
 rw [if_neg q4]
 have ha := hr.asks
 split at he
 ·rename_i q; rw [if_pos q]
  subst q
  split at he
  ·cases he
  rename_i q5
  rw [if_neg q5]
  obtain ⟨d1, d2⟩ := hL.da rfl
  have hcon : r.sz ≠ -1 → (fr : Int) + b.length ≤ r.sz := fun e => by
   have hz := hr.sz
   rcases Classical.em (r.sz < (fr : Int) + b.length) with w | w
   ·exact absurd (by simp [conF, w]; omega) q4
   ·omega
  have hc := put_core hr d1 d2 hcon (by omega)
  have hm := busy_mid (r := putR r fr b) hc hr.st hr.wt (fun e => (ha.1 e).1) ha.2 k3 q2
  obtain ⟨g1, g2, g3, g4⟩ := endR_ok hm hw (fun e => absurd e (by decide)) (fun e => by
   simp only [busy] at e
   split at e
   ·cases e
   ·exact (ha.1 e).2.1) he
  exact ⟨g1, .inr g3, fun x hx => by have := g4 x hx; exact this⟩
 ·rename_i q; rw [if_neg q]
  have hkd : kind = 1 ∨ kind = 3 := by omega
  have hfig := hL.fig hkd
  have hcon : (r.dat.length : Int) ≤ size := by
   rcases Classical.em (size < (r.dat.length : Int)) with w | w
   ·refine absurd ?_ q4
    simp [conF, q, w]
   ·omega
  have hc := size_core hr hfig.1 hfig.2 hL.nmr hcon
  have hm := busy_mid (r := sizeR r kind nm size sum) hc hr.st hr.wt (fun e => (ha.1 e).1) ha.2 k3 q2
  obtain ⟨g1, g2, g3, g4⟩ := endR_ok hm hw (fun _ => by show size ≠ -1; omega) (fun _ => by show size ≠ -1; omega) he
  exact ⟨g1, .inl g3, fun x hx => by have := g4 x hx; exact this⟩
end Go.Proofs.Ytoepnomdklhhlaa.PM
/- Plain laws of receivers: what a receiver becomes is right, and no byte that is there changes. -/
set_option linter.unusedSimpArgs false
set_option linter.unusedVariables false
namespace Go.Proofs.Ytoepnomdklhhlaa.PM
open Go Go.Proofs.Ytoepnomdklhhlaa.Bt
variable {R : Type}
noncomputable abbrev chkL (x : Lt) : Int := chkLetter x.1 x.2.1 x.2.2.1 x.2.2.2.1 x.2.2.2.2.1 x.2.2.2.2.2.1 x.2.2.2.2.2.2.1 x.2.2.2.2.2.2.2.1 x.2.2.2.2.2.2.2.2.1
theorem tickR_ok {wait most : Int} {r : Rv} (hr : RFull r) (hw : 1 ≤ wait ∧ wait ≤ 1000000) (hm : most ≤ 50) (he : (tickR wait most r).2 = 0) : RFull (tickR wait most r).1.1 ∧ (∀ x ∈ (tickR wait most r).1.2, chkL x = 0 ∧ x.2.1 = r.id) := by
 have ha := hr.asks
 have hc := hr.core
 unfold tickR at he ⊢
 split at he
 ·rename_i q; rw [if_pos q]; exact ⟨hr, fun x hx => by cases hx⟩
 rename_i q
 rw [if_neg q]
 have q' : r.st = 2 := Classical.not_not.1 q
 obtain ⟨a1, a2, a3⟩ := ha.1 q'
 have hwt := hr.wt
 have hstB : ∀ w : Int, w ≠ 0 → stB (decide (r.st = 2)) (decide (w = 0)) (decide (r.sz = -1)) (decide (r.st = 0)) (emp r.nm) (decide (r.dat.length = 0)) (decide (r.tr = 0)) (decide ((holesF r.hv r.sz).length = 0)) = false := fun w hw0 => by
  simp only [stB, q', decide_true, decide_eq_false hw0, decide_eq_false a2, Bool.true_and, Bool.not_true, Bool.false_and, Bool.or_false, Bool.false_or, decide_eq_false (show ¬ (2 : Int) = 0 by decide)]
  cases w : emp r.nm with
  | true => simp
  | false => simp; exact fun e => a3 ⟨w, by rw [e]; rfl⟩
 split at he
 ·rename_i q1; rw [if_pos q1]
  refine ⟨?_, fun x hx => by cases hx⟩
  exact RCore.full (r := { r with wt := r.wt - 1 }) ⟨hc.id, hc.nm, hc.sz, hc.sum, hc.tr, hc.hv, hc.dl, hc.bad, hc.un⟩ hr.st ⟨by simp only; omega, by simp only; omega⟩ (hstB (r.wt - 1) (by omega))
 rename_i q1
 rw [if_neg q1]
 split at he
 ·rename_i q2; rw [if_pos q2]
  have e0 : r.wt - 1 = 0 := by omega
  refine ⟨?_, fun x hx => ?_⟩
  ·rw [e0]; exact hr.stop
  ·simp at hx; subst hx; exact ⟨letter_stop r hr.id, rfl⟩
 rename_i q2
 rw [if_neg q2]
 split at he
 ·cases he
 rename_i q3
 rw [if_neg q3]
 have htr := hr.tr
 refine ⟨?_, fun x hx => ?_⟩
 ·refine RCore.full (r := { r with wt := wait, tr := r.tr + 1 }) ⟨hc.id, hc.nm, hc.sz, hc.sum, ⟨by simp only; omega, by simp only; omega⟩, hc.hv, hc.dl, hc.bad, hc.un⟩ hr.st ⟨by simp only; omega, by simp only; omega⟩ ?_
  simp only [stB, q', decide_true, decide_eq_false (show ¬ wait = 0 by omega), decide_eq_false a2, Bool.true_and, Bool.not_true, Bool.false_and, Bool.or_false, Bool.false_or, decide_eq_false (show ¬ (2 : Int) = 0 by decide)]
  cases w : emp r.nm with
  | true => simp
  | false => simp; exact fun e => a3 ⟨w, by rw [e]; rfl⟩
 ·simp at hx; subst hx; exact ⟨letter_hole hc a2 (by omega) a3, rfl⟩
end Go.Proofs.Ytoepnomdklhhlaa.PM

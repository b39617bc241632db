/- Merged plain texts: PlSpan, PlSpan2, PlSpan3, PlPut, PlFill, PlTk, PlTk2, PlTk3. -/
import Derived.Test.YtoepnomdklhhlaaPlA
import Derived.Test.YtoepnomdklhhlaaSrtD
/- Plain laws of spans: what is joined. -/
set_option linter.unusedSimpArgs false
set_option linter.unusedVariables false
namespace Go.Proofs.Ytoepnomdklhhlaa.PM
open Go Go.Proofs.Ytoepnomdklhhlaa.Bt
variable {R : Type}

def mxI (a b : Int) : Int := if a < b then b else a
/-- One span more. -/
def swl : Rg → List Rg → List Rg
 | c, [] => [c]
 | c, x :: l => if x.1 ≤ c.2.1 then swl (c.1, (mxI c.2.1 x.2.1, ())) l else c :: swl x l
def sweep : List Rg → List Rg
 | [] => []
 | x :: l => swl x l
def Ne (l : List Rg) : Prop := ∀ x ∈ l, x.1 < x.2.1
def Up (l : List Rg) : Prop := l.Pairwise fun x y => x.1 ≤ y.1
theorem inR_cons {x : Rg} {l : List Rg} {j : Int} : inR (x :: l) j ↔ (x.1 ≤ j ∧ j < x.2.1) ∨ inR l j := by
 constructor
 ·rintro ⟨y, hy, h⟩
  rcases List.mem_cons.1 hy with rfl | hy
  ·exact Or.inl h
  ·exact Or.inr ⟨y, hy, h⟩
 ·rintro (h | ⟨y, hy, h⟩)
  ·exact ⟨x, by simp, h⟩
  ·exact ⟨y, by simp [hy], h⟩
theorem inR_app {l m : List Rg} {j : Int} : inR (l ++ m) j ↔ inR l j ∨ inR m j := by
 constructor
 ·rintro ⟨y, hy, h⟩
  rcases List.mem_append.1 hy with hy | hy
  ·exact Or.inl ⟨y, hy, h⟩
  ·exact Or.inr ⟨y, hy, h⟩
 ·rintro (⟨y, hy, h⟩ | ⟨y, hy, h⟩)
  ·exact ⟨y, by simp [hy], h⟩
  ·exact ⟨y, by simp [hy], h⟩
theorem inR_perm {l m : List Rg} (h : l.Perm m) {j : Int} : inR l j ↔ inR m j := by
 constructor
 ·rintro ⟨y, hy, hj⟩; exact ⟨y, h.mem_iff.1 hy, hj⟩
 ·rintro ⟨y, hy, hj⟩; exact ⟨y, h.mem_iff.2 hy, hj⟩
/-- Lists of spans apart from each other, in order. -/
def Can : Int → List Rg → Prop
 | _, [] => True
 | a, x :: l => a < x.1 ∧ x.1 < x.2.1 ∧ Can x.2.1 l
theorem can_low : ∀ {a : Int} {l : List Rg}, Can a l → ∀ x ∈ l, a < x.1 ∧ x.1 < x.2.1
 | _, [], _, x, hx => by cases hx
 | a, y :: l, ⟨h1, h2, h3⟩, x, hx => by
   rcases List.mem_cons.1 hx with rfl | hx
   ·exact ⟨h1, h2⟩
   ·have := can_low h3 x hx
    exact ⟨by omega, this.2⟩
theorem swl_can : ∀ {a : Int} {c : Rg} {l : List Rg}, a < c.1 → c.1 < c.2.1 → Ne l → (∀ x ∈ l, c.1 ≤ x.1) → Up l → Can a (swl c l)
 | a, c, [], h1, h2, _, _, _ => ⟨h1, h2, trivial⟩
 | a, c, x :: l, h1, h2, hn, hc, hu => by
   have hx := hn x (by simp)
   have hcx := hc x (by simp)
   rw [Up, List.pairwise_cons] at hu
   simp only [swl]
   split
   ·refine swl_can (c := (c.1, (mxI c.2.1 x.2.1, ()))) h1 ?_ (fun y hy => hn y (by simp [hy])) (fun y hy => hc y (by simp [hy])) hu.2
    show c.1 < mxI c.2.1 x.2.1
    unfold mxI; split <;> omega
   ·exact ⟨h1, h2, swl_can (by omega) hx (fun y hy => hn y (by simp [hy])) (fun y hy => hu.1 y hy) hu.2⟩
theorem swl_in : ∀ {c : Rg} {l : List Rg}, c.1 < c.2.1 → Ne l → (∀ x ∈ l, c.1 ≤ x.1) → Up l → ∀ j, inR (swl c l) j ↔ inR (c :: l) j
 | c, [], _, _, _, _, j => Iff.rfl
 | c, x :: l, h2, hn, hc, hu, j => by
   have hx := hn x (by simp)
   have hcx := hc x (by simp)
   rw [Up, List.pairwise_cons] at hu
   simp only [swl]
   split
   ·rename_i hle
    have hm : c.1 < mxI c.2.1 x.2.1 := by unfold mxI; split <;> omega
    rw [swl_in (c := (c.1, (mxI c.2.1 x.2.1, ()))) hm (fun y hy => hn y (by simp [hy])) (fun y hy => hc y (by simp [hy])) hu.2 j, inR_cons, inR_cons, inR_cons]
    have : (c.1 ≤ j ∧ j < mxI c.2.1 x.2.1) ↔ ((c.1 ≤ j ∧ j < c.2.1) ∨ (x.1 ≤ j ∧ j < x.2.1)) := by
     unfold mxI
     split <;> constructor <;> omega
    rw [show ((c.1, (mxI c.2.1 x.2.1, ())) : Rg).1 = c.1 from rfl, show ((c.1, (mxI c.2.1 x.2.1, ())) : Rg).2.1 = mxI c.2.1 x.2.1 from rfl, this, or_assoc]
   ·rw [inR_cons, swl_in hx (fun y hy => hn y (by simp [hy])) (fun y hy => hu.1 y hy) hu.2 j, inR_cons (x := c)]
theorem sweep_can {a : Int} {l : List Rg} (hl : ∀ x ∈ l, a < x.1) (hn : Ne l) (hu : Up l) : Can a (sweep l) := by
 cases l with
 | nil => trivial
 | cons x l =>
   have hu' := hu
   rw [Up, List.pairwise_cons] at hu'
   exact swl_can (hl x (by simp)) (hn x (by simp)) (fun y hy => hn y (by simp [hy])) hu'.1 hu'.2
theorem sweep_in {l : List Rg} (hn : Ne l) (hu : Up l) (j : Int) : inR (sweep l) j ↔ inR l j := by
 cases l with
 | nil => exact Iff.rfl
 | cons x l =>
   have hu' := hu
   rw [Up, List.pairwise_cons] at hu'
   exact swl_in (hn x (by simp)) (fun y hy => hn y (by simp [hy])) hu'.1 hu'.2 j
/-! the walk over a list -/
def stp (o : List Rg) (x : Rg) : List Rg := match o.getLast? with
 | some c => if x.1 ≤ c.2.1 then o.dropLast ++ [(c.1, (mxI c.2.1 x.2.1, ()))] else o ++ [x]
 | none => [x]
def swO (o : List Rg) : List Rg → List Rg
 | [] => o
 | x :: l => swO (stp o x) l
theorem swO_swl : ∀ (l : List Rg) (p : List Rg) (c : Rg), swO (p ++ [c]) l = p ++ swl c l
 | [], p, c => rfl
 | x :: l, p, c => by
   have h : stp (p ++ [c]) x = if x.1 ≤ c.2.1 then p ++ [(c.1, (mxI c.2.1 x.2.1, ()))] else (p ++ [c]) ++ [x] := by simp [stp]
   simp only [swO, swl]
   rw [h]
   split
   ·exact swO_swl l p _
   ·rw [swO_swl l (p ++ [c]) x, List.append_assoc]; rfl
theorem swO_sweep (l : List Rg) : swO [] l = sweep l := by
 cases l with
 | nil => rfl
 | cons x l => exact swO_swl l [] x
theorem stp_len (o : List Rg) (x : Rg) : (stp o x).length ≤ o.length + 1 := by
 unfold stp
 cases h : o.getLast? with
 | none => simp
 | some c =>
   have : 0 < o.length := by cases o with | nil => simp at h | cons a l => simp
   simp only
   split
   ·simp only [List.length_append, List.length_dropLast, List.length_singleton]; omega
   ·simp
/-- What the code does with one span. -/
theorem code_step (o : List Rg) (x : Rg) (ho : o.length ≤ 1000000) (X : List Rg → Option R) :
  (bif (decide ((o.length : Int) > 0) == true) then (bif (decide (0 ≤ IntKind.i64.wrap ((o.length : Int) - 1)) && decide (IntKind.i64.wrap ((o.length : Int) - 1) < (o.length : Int))) then
    (bif decide (x.1 ≤ ((o.getD (Int.toNat (IntKind.i64.wrap ((o.length : Int) - 1))) (0, (0, ()))).2).1) then
     (bif (decide (0 ≤ IntKind.i64.wrap ((o.length : Int) - 1)) && decide (IntKind.i64.wrap ((o.length : Int) - 1) < (o.length : Int))) then (bif (decide (0 ≤ IntKind.i64.wrap ((o.length : Int) - 1)) && decide (IntKind.i64.wrap ((o.length : Int) - 1) < (o.length : Int))) then
      X (o.set (Int.toNat (IntKind.i64.wrap ((o.length : Int) - 1))) ((o.getD (Int.toNat (IntKind.i64.wrap ((o.length : Int) - 1))) (0, (0, ()))).1, ((if ((o.getD (Int.toNat (IntKind.i64.wrap ((o.length : Int) - 1))) (0, (0, ()))).2).1 < x.2.1 then x.2.1 else ((o.getD (Int.toNat (IntKind.i64.wrap ((o.length : Int) - 1))) (0, (0, ()))).2).1), ()))) else none) else none)
     else (bif decide (o.length + ([(x.1, (x.2.1, ()))] : List Rg).length ≤ LIM 16) then X (o ++ [(x.1, (x.2.1, ()))]) else none)) else none)
   else (bif decide (o.length + ([(x.1, (x.2.1, ()))] : List Rg).length ≤ LIM 16) then X (o ++ [(x.1, (x.2.1, ()))]) else none)) = X (stp o x) := by
 have hL : decide (o.length + ([(x.1, (x.2.1, ()))] : List Rg).length ≤ LIM 16) = true := by rw [LIM16]; simp only [decide_eq_true_eq, List.length_singleton]; omega
 have hx : ((x.1, (x.2.1, ())) : Rg) = x := rfl
 rw [hL, hx]
 rcases List.eq_nil_or_concat o with rfl | ⟨p, c, rfl⟩
 ·rfl
 ·rw [List.concat_eq_append] at *
  have hlen : (p ++ [c]).length = p.length + 1 := by simp
  have ho' : p.length + 1 ≤ 1000000 := by rw [← hlen]; exact ho
  have hw : IntKind.i64.wrap (((p ++ [c]).length : Int) - 1) = (p.length : Int) := by rw [hlen, wi (by omega) (by omega)]; omega
  have h1 : (decide (((p ++ [c]).length : Int) > 0) == true) = true := by simp only [beq_iff_eq, decide_eq_true_eq, hlen]; omega
  have h2 : (decide (0 ≤ (p.length : Int)) && decide ((p.length : Int) < ((p ++ [c]).length : Int))) = true := by simp only [Bool.and_eq_true, decide_eq_true_eq, hlen]; omega
  have hg : (p ++ [c]).getD p.length (0, (0, ())) = c := by simp [List.getD_eq_getElem?_getD]
  have hs : ∀ z : Rg, (p ++ [c]).set p.length z = p ++ [z] := fun z => by simp
  simp only [hw, h1, h2, cond_true, Int.toNat_natCast, hg, hs]
  have h : stp (p ++ [c]) x = if x.1 ≤ c.2.1 then p ++ [(c.1, (mxI c.2.1 x.2.1, ()))] else (p ++ [c]) ++ [x] := by simp [stp]
  rw [h]
  by_cases q : x.1 ≤ c.2.1
  ·simp only [q, decide_true, cond_true, if_true, mxI]
  ·simp only [q, decide_false, cond_false, if_false]
end Go.Proofs.Ytoepnomdklhhlaa.PM
/- Plain laws of spans: the code and the reference. -/
set_option linter.unusedSimpArgs false
set_option linter.unusedVariables false
namespace Go.Proofs.Ytoepnomdklhhlaa.PM
open Go Go.Proofs.Ytoepnomdklhhlaa.Bt
variable {R : Type}

theorem f50_loop (k : Nat) (x0 : List Rg → Option R) (l : List Rg) (hl : l.length ≤ 100000) : ∀ (d f i : Nat) (o : List Rg), i + d = l.length → d < f → o.length ≤ i →
  f50_0d k x0 (l.length : Int) l f (i : Int) o = x0 (swO o (l.drop i)) := by
 intro d
 induction d with
 | zero =>
   intro f i o hi hf ho
   obtain ⟨f, rfl⟩ := succ_of hf
   have h1 : decide ((i : Int) < (l.length : Int)) = false := by simp only [decide_eq_false_iff_not]; omega
   simp only [f50_0d, f50_0b, h1, cond_false]
   rw [List.drop_of_length_le (by omega)]
   rfl
 | succ d ih =>
   intro f i o hi hf ho
   obtain ⟨f, rfl⟩ := succ_of hf
   have h1 : decide ((i : Int) < (l.length : Int)) = true := by simp only [decide_eq_true_eq]; omega
   have h0 : decide ((0 : Int) ≤ (i : Int)) = true := by simp
   have hw : IntKind.i64.wrap ((i : Int) + 1) = ((i + 1 : Nat) : Int) := by rw [wi (by omega) (by omega)]; omega
   have hli : i < l.length := by omega
   have hg : l.getD (Int.toNat (i : Int)) (0, (0, ())) = l[i] := getD_in hli
   simp only [f50_0d, f50_0b, hg, h1, h0, cond_true, Bool.and_self, hw, f50_1000009_def, f50_1000009d, cond_false]
   rw [List.drop_eq_getElem_cons hli]
   refine (code_step o l[i] (by omega) (fun y => f50_0d k x0 (l.length : Int) l f ((i + 1 : Nat) : Int) y)).trans ?_
   have := stp_len o l[i]
   exact ih f (i + 1) _ (by omega) (by omega) (by omega)
noncomputable def jn (a b : List Rg) : List Rg := sweep (srtL (a ++ b))
theorem f50_eq {k : Nat} {a b : List Rg} (ha : a.length ≤ 2000) (hb : b.length ≤ 2000) (hs : sortOk (a ++ b) = true) (hk : 5000 < k) (K : List Rg → Option R) : f50 k a b K = K (jn a b) := by
 rw [f50_def]
 obtain ⟨k, rfl⟩ := succ_of (show 0 < k by omega)
 have hl : (srtL (a ++ b)).length = (a ++ b).length := srtL_len _
 have hap : (a ++ b).length = a.length + b.length := List.length_append
 simp only [f50d, f58_eq (show 5 < k by omega) a b (by omega) (by omega), f59_def]
 obtain ⟨k, rfl⟩ := succ_of (show 0 < k by omega)
 simp only [f59d, hs, cond_true, hl, decide_true, Bool.and_self, f50_0_def]
 rw [← hl]
 exact (f50_loop (k + 1) _ (srtL (a ++ b)) (by omega) (srtL (a ++ b)).length (k + 1) 0 [] (by omega) (by omega) (by simp)).trans (by rw [List.drop_zero, swO_sweep]; rfl)

/-! the reference's merging -/
/-! what is checked -/
theorem rgF_can {lim : Int} : ∀ {p : Option Int} {l : List Rg}, rgF lim p l = 0 → Can (p.getD (-1)) l
 | _, [], _ => trivial
 | p, y :: l, h => by
   simp only [rgF] at h
   by_cases q1 : y.1 < 0
   ·simp [q1] at h
   by_cases q2 : y.2.1 > lim
   ·simp [q1, q2] at h
   by_cases q3 : y.2.1 ≤ y.1
   ·simp [q1, q2, q3] at h
   cases p with
   | none => exact ⟨by show (-1 : Int) < y.1; omega, by omega, rgF_can (p := some y.2.1) (by simpa [q1, q2, q3] using h)⟩
   | some e =>
     by_cases q4 : y.1 ≤ e
     ·simp [q1, q2, q3, q4] at h
     ·exact ⟨by show e < y.1; omega, by omega, rgF_can (p := some y.2.1) (by simpa [q1, q2, q3, q4] using h)⟩
theorem can_rgF {lim : Int} : ∀ {p : Option Int} {l : List Rg}, (∀ e, p = some e → -1 ≤ e) → Can (p.getD (-1)) l → (∀ x ∈ l, x.2.1 ≤ lim) → rgF lim p l = 0
 | _, [], _, _, _ => rfl
 | p, y :: l, hp, ⟨h1, h2, h3⟩, hl => by
   have hy := hl y (by simp)
   have hy0 : 0 ≤ y.1 := by
    cases p with
    | none => have h1' : (-1 : Int) < y.1 := h1; omega
    | some e => have := hp e rfl; have h1' : e < y.1 := h1; omega
   have ih := can_rgF (p := some y.2.1) (l := l) (fun e he => by cases he; omega) h3 (fun x hx => hl x (by simp [hx]))
   have q1 : ¬ y.1 < 0 := by omega
   have q2 : ¬ y.2.1 > lim := by omega
   have q3 : ¬ y.2.1 ≤ y.1 := by omega
   cases p with
   | none => simp [rgF, q1, q2, q3, ih]
   | some e =>
     have h1' : e < y.1 := h1
     have q4 : ¬ y.1 ≤ e := by omega
     simp [rgF, q1, q2, q3, q4, ih]
structure LOk (lim : Int) (l : List Rg) : Prop where
 bnd : 0 ≤ lim ∧ lim ≤ 100000
 len : l.length ≤ 2000
 can : Can (-1) l
 upto : ∀ x ∈ l, x.2.1 ≤ lim
theorem chk_ok {lim : Int} {l : List Rg} (h : chkRgs l lim = 0) : LOk lim l := by
 unfold chkRgs at h
 by_cases h1 : inB lim 0 100000 = false
 ·simp [h1] at h
 ·by_cases h2 : 2000 < l.length
  ·simp [h1, h2] at h
  ·simp only [h1, h2, if_false] at h
   refine ⟨inB_iff.1 (by simpa using h1), by omega, rgF_can (p := none) h, fun x hx => ?_⟩
   have : ∀ (a : Int) (m : List Rg), Srt lim a m → ∀ y ∈ m, y.2.1 ≤ lim := by
    intro a m
    induction m generalizing a with
    | nil => intro _ y hy; cases hy
    | cons z m ih =>
      rintro ⟨s1, s2, s3, s4⟩ y hy
      rcases List.mem_cons.1 hy with rfl | hy
      ·exact s3
      ·exact ih _ s4 y hy
   exact this _ l (rgF_srt (p := none) h) x hx
theorem ok_chk {lim : Int} {l : List Rg} (h : LOk lim l) : chkRgs l lim = 0 := by
 unfold chkRgs
 have h1 : inB lim 0 100000 = true := inB_iff.2 h.bnd
 rw [h1, if_neg (by simp), if_neg (by have := h.len; omega)]
 exact can_rgF (p := none) (fun e he => by cases he) h.can h.upto
theorem LOk.ne {lim : Int} {l : List Rg} (h : LOk lim l) : Ne l := fun x hx => (can_low h.can x hx).2
theorem LOk.low {lim : Int} {l : List Rg} (h : LOk lim l) : ∀ x ∈ l, -1 < x.1 := fun x hx => (can_low h.can x hx).1
theorem sortOk_of {lim : Int} {a b : List Rg} (ha : LOk lim a) (hb : LOk lim b) : sortOk (a ++ b) = true := by
 have l1 := ha.len
 have l2 := hb.len
 have hlim := ha.bnd
 simp only [sortOk, Bool.and_eq_true, List.all_eq_true, decide_eq_true_eq, List.length_append]
 refine ⟨fun x hx => ?_, by omega⟩
 have : -1 < x.1 ∧ x.1 < x.2.1 ∧ x.2.1 ≤ lim := by
  rcases List.mem_append.1 hx with hx | hx
  ·exact ⟨ha.low x hx, ha.ne x hx, ha.upto x hx⟩
  ·exact ⟨hb.low x hx, hb.ne x hx, hb.upto x hx⟩
 simp only [spOk, Bool.and_eq_true, decide_eq_true_eq]
 omega
section
variable {lim : Int} {a b : List Rg}
theorem jn_perm (ha : LOk lim a) (hb : LOk lim b) : (srtL (a ++ b)).Perm (a ++ b) := srtL_perm (sortOk_of ha hb)
theorem jn_facts (ha : LOk lim a) (hb : LOk lim b) : Ne (srtL (a ++ b)) ∧ (∀ x ∈ srtL (a ++ b), -1 < x.1) := by
 have hp := jn_perm ha hb
 refine ⟨fun x hx => ?_, fun x hx => ?_⟩
 ·rcases List.mem_append.1 (hp.mem_iff.1 hx) with h | h
  ·exact ha.ne x h
  ·exact hb.ne x h
 ·rcases List.mem_append.1 (hp.mem_iff.1 hx) with h | h
  ·exact ha.low x h
  ·exact hb.low x h
theorem jn_can (ha : LOk lim a) (hb : LOk lim b) : Can (-1) (jn a b) := sweep_can (jn_facts ha hb).2 (jn_facts ha hb).1 (srtL_asc _)
theorem jn_in (ha : LOk lim a) (hb : LOk lim b) (j : Int) : inR (jn a b) j ↔ (inR a j ∨ inR b j) := by
 unfold jn
 rw [sweep_in (jn_facts ha hb).1 (srtL_asc _), inR_perm (jn_perm ha hb), inR_app]
theorem jn_to (ha : LOk lim a) (hb : LOk lim b) : ∀ x ∈ jn a b, x.2.1 ≤ lim := by
 intro x hx
 have hx2 := can_low (jn_can ha hb) x hx
 have := (jn_in ha hb (x.2.1 - 1)).1 ⟨x, hx, by omega, by omega⟩
 rcases this with ⟨y, hy, h1, h2⟩ | ⟨y, hy, h1, h2⟩
 ·have := ha.upto y hy; omega
 ·have := hb.upto y hy; omega
theorem jn_ok (ha : LOk lim a) (hb : LOk lim b) (hl : (jn a b).length ≤ 2000) : LOk lim (jn a b) := ⟨ha.bnd, hl, jn_can ha hb, jn_to ha hb⟩
end
theorem d2000 (n : Nat) : decide ((n : Int) > 2000) = decide (2000 < n) := by rw [Bool.eq_iff_iff]; simp only [decide_eq_true_eq]; omega
end Go.Proofs.Ytoepnomdklhhlaa.PM
/- Plain laws of spans: joining is even, spans and holes make the whole. -/
set_option linter.unusedSimpArgs false
set_option linter.unusedVariables false
namespace Go.Proofs.Ytoepnomdklhhlaa.PM
open Go Go.Proofs.Ytoepnomdklhhlaa.Bt
variable {R : Type}

/-! how many places spans have -/
theorem LOk.all {lim : Int} {l : List Rg} (h : LOk lim l) : ∀ x ∈ l, -1 < x.1 ∧ x.1 < x.2.1 ∧ x.2.1 ≤ lim := fun x hx => ⟨h.low x hx, h.ne x hx, h.upto x hx⟩
section
variable {lim : Int} {a b : List Rg}
end
/-! spans and holes -/
theorem preF_can : ∀ {s : Int} {l : List Rg} {a : Int}, a < s → Can s l ∨ (∃ x m, l = x :: m ∧ s ≤ x.1 ∧ x.1 < x.2.1 ∧ Can x.2.1 m) → Can a (preF s l)
 | s, [], a, _, _ => trivial
 | s, x :: l, a, ha, h => by
   have hx : s ≤ x.1 ∧ x.1 < x.2.1 ∧ Can x.2.1 l := by
    rcases h with ⟨h1, h2, h3⟩ | ⟨y, m, e, h1, h2, h3⟩
    ·exact ⟨by omega, h2, h3⟩
    ·cases e; exact ⟨h1, h2, h3⟩
   simp only [preF]
   split
   ·rename_i q
    exact ⟨ha, q, preF_can (s := x.2.1) (a := x.1) (by omega) (Or.inl hx.2.2)⟩
   ·rw [List.nil_append]
    exact preF_can (s := x.2.1) (a := a) (by omega) (Or.inl hx.2.2)
theorem can_app : ∀ {a : Int} {l : List Rg} {x : Rg}, Can a l → (∀ y ∈ l, y.2.1 < x.1) → a < x.1 → x.1 < x.2.1 → Can a (l ++ [x])
 | a, [], x, _, _, h1, h2 => ⟨h1, h2, trivial⟩
 | a, y :: l, x, ⟨h1, h2, h3⟩, hy, _, h4 => ⟨h1, h2, can_app h3 (fun z hz => hy z (by simp [hz])) (hy y (by simp)) h4⟩
theorem can_srt {lim : Int} : ∀ {s : Int} {l : List Rg}, Can s l → (∀ x ∈ l, x.2.1 ≤ lim) → Srt lim s l
 | _, [], _, _ => trivial
 | s, x :: l, ⟨h1, h2, h3⟩, h => ⟨by omega, h2, h x (by simp), can_srt h3 (fun y hy => h y (by simp [hy]))⟩
theorem LOk.srt {lim : Int} {l : List Rg} (h : LOk lim l) : Srt lim 0 l := by
 cases l with
 | nil => trivial
 | cons x l =>
   obtain ⟨h1, h2, h3⟩ := h.can
   exact ⟨by omega, h2, h.upto x (by simp), can_srt h3 (fun y hy => h.upto y (by simp [hy]))⟩
theorem preF_gap {lim : Int} : ∀ {s : Int} {l : List Rg}, Srt lim s l → l ≠ [] → ∀ h ∈ preF s l, h.2.1 < lastT s l
 | s, [], _, hne, _, _ => absurd rfl hne
 | s, x :: l, ⟨h1, h2, h3, h4⟩, _, h, hh => by
   have hb := (lastT_bounds h4).1
   simp only [preF] at hh
   simp only [lastT]
   rcases List.mem_append.1 hh with hh | hh
   ·split at hh
    ·rw [List.mem_singleton] at hh; subst hh; show x.1 < _; omega
    ·cases hh
   ·cases l with
    | nil => cases hh
    | cons y m => exact preF_gap h4 (by simp) h hh
theorem holes_can {lim : Int} {a : List Rg} (ha : LOk lim a) : Can (-1) (holesF a lim) := by
 have hs := ha.srt
 have hp : Can (-1) (preF 0 a) := by
  cases a with
  | nil => trivial
  | cons x l =>
    obtain ⟨h1, h2, h3⟩ := ha.can
    exact preF_can (by omega) (Or.inr ⟨x, l, rfl, by omega, h2, h3⟩)
 unfold holesF
 split
 ·rename_i q
  refine can_app hp (fun y hy => ?_) ?_ q
  ·cases a with
   | nil => cases hy
   | cons x l => exact preF_gap hs (by simp) y hy
  ·have := (lastT_bounds hs).1
   show (-1 : Int) < lastT 0 a
   omega
 ·rw [List.append_nil]; exact hp
theorem srt_last {lim : Int} : ∀ {s : Int} {l : List Rg}, Srt lim s l → ∀ x ∈ l, x.2.1 ≤ lastT s l
 | _, [], _, x, hx => by cases hx
 | s, y :: l, ⟨h1, h2, h3, h4⟩, x, hx => by
   simp only [lastT]
   rcases List.mem_cons.1 hx with rfl | hx
   ·exact (lastT_bounds h4).1
   ·exact srt_last h4 x hx
theorem holes_in {lim : Int} {a : List Rg} (ha : LOk lim a) (j : Int) : inR (holesF a lim) j ↔ (0 ≤ j ∧ j < lim ∧ ¬ inR a j) := by
 have hs := ha.srt
 obtain ⟨b1, b2⟩ := lastT_bounds hs
 have b3 := b2 ha.bnd.1
 unfold holesF
 rw [inR_app, preF_mem hs j]
 have hno : lastT 0 a ≤ j → ¬ inR a j := by
  rintro hj ⟨x, hx, h1, h2⟩
  have := srt_last hs x hx
  omega
 by_cases q : lastT 0 a < lim
 ·rw [if_pos q, inR_cons]
  have hn : ¬ inR ([] : List Rg) j := by rintro ⟨x, hx, _⟩; cases hx
  constructor
  ·rintro (⟨h1, h2, h3⟩ | h | h)
   ·exact ⟨h1, by omega, h3⟩
   ·have h1 : lastT 0 a ≤ j := h.1
    have h2 : j < lim := h.2
    exact ⟨by omega, h2, hno h1⟩
   ·exact absurd h hn
  ·rintro ⟨h1, h2, h3⟩
   by_cases c : j < lastT 0 a
   ·exact Or.inl ⟨h1, c, h3⟩
   ·exact Or.inr (Or.inl ⟨by show lastT 0 a ≤ j; omega, h2⟩)
 ·rw [if_neg q]
  have hn : ¬ inR ([] : List Rg) j := by rintro ⟨x, hx, _⟩; cases hx
  constructor
  ·rintro (⟨h1, h2, h3⟩ | h)
   ·exact ⟨h1, by omega, h3⟩
   ·exact absurd h hn
  ·rintro ⟨h1, h2, h3⟩
   exact Or.inl ⟨h1, by omega, h3⟩
theorem holes_ok {lim : Int} {a : List Rg} (ha : LOk lim a) (hl : (holesF a lim).length ≤ 2000) : LOk lim (holesF a lim) := by
 refine ⟨ha.bnd, hl, holes_can ha, fun x hx => ?_⟩
 have h := can_low (holes_can ha) x hx
 have := (holes_in ha (x.2.1 - 1)).1 ⟨x, hx, by omega, by omega⟩
 omega
end Go.Proofs.Ytoepnomdklhhlaa.PM
/- Plain laws of receivers: bytes are laid into a file. -/
set_option linter.unusedSimpArgs false
set_option linter.unusedVariables false
namespace Go.Proofs.Ytoepnomdklhhlaa.PM
open Go Go.Proofs.Ytoepnomdklhhlaa.Bt
variable {R : Type}
/-- A list with some places laid over. -/
def ovr (P : Nat → Bool) (fr : Nat) (b base : List Int) : List Int := (List.range base.length).map fun j => if P j = true then b.getD (j - fr) 0 else base.getD j 0
theorem ovr_len (P : Nat → Bool) (fr : Nat) (b base : List Int) : (ovr P fr b base).length = base.length := by simp [ovr]
theorem ovr_get (P : Nat → Bool) (fr : Nat) (b base : List Int) (j : Nat) : (ovr P fr b base)[j]? = if j < base.length then some (if P j = true then b.getD (j - fr) 0 else base.getD j 0) else none := by
 unfold ovr
 rw [List.getElem?_map]
 by_cases h : j < base.length
 ·rw [List.getElem?_range h, if_pos h]; rfl
 ·rw [if_neg h, List.getElem?_eq_none (by simp; omega)]; rfl
theorem ovr_congr {P Q : Nat → Bool} {fr : Nat} {b base : List Int} (h : ∀ j, j < base.length → P j = Q j) : ovr P fr b base = ovr Q fr b base := by
 refine List.ext_getElem? fun j => ?_
 rw [ovr_get, ovr_get]
 by_cases hj : j < base.length
 ·rw [if_pos hj, if_pos hj, h j hj]
 ·rw [if_neg hj, if_neg hj]
theorem ovr_none {P : Nat → Bool} {fr : Nat} {b base : List Int} (h : ∀ j, j < base.length → P j = false) : ovr P fr b base = base := by
 refine List.ext_getElem? fun j => ?_
 rw [ovr_get]
 by_cases hj : j < base.length
 ·rw [if_pos hj, h j hj, if_neg (by simp), List.getD_eq_getElem?_getD, List.getElem?_eq_getElem hj]; rfl
 ·rw [if_neg hj, List.getElem?_eq_none (by omega)]
def fresh (P : Nat → Bool) (n : Nat) : Bool := (List.range n).any P
theorem fresh_iff {P : Nat → Bool} {n : Nat} : fresh P n = true ↔ ∃ j, j < n ∧ P j = true := by simp [fresh]
theorem fresh_congr {P Q : Nat → Bool} {n : Nat} (h : ∀ j, j < n → P j = Q j) : fresh P n = fresh Q n := by
 rw [Bool.eq_iff_iff, fresh_iff, fresh_iff]
 exact ⟨fun ⟨j, h1, h2⟩ => ⟨j, h1, by rw [← h j h1]; exact h2⟩, fun ⟨j, h1, h2⟩ => ⟨j, h1, by rw [h j h1]; exact h2⟩⟩
/-- What is laid: the places from fr to to that are not there. -/
def putP (hv : List Rg) (fr to : Nat) (j : Nat) : Bool := decide (fr ≤ j) && (decide (j < to) && !insB hv (j : Int))
def padL (l : List Int) (n : Nat) : List Int := l ++ List.replicate (n - l.length) 0
theorem padL_len (l : List Int) (n : Nat) : (padL l n).length = max n l.length := by simp [padL]; omega
theorem padL_le {l : List Int} {n : Nat} (h : n ≤ l.length) : padL l n = l := by unfold padL; rw [Nat.sub_eq_zero_of_le h]; simp
theorem LIM1' : LIM 1 = 140737488355328 := by simp [LIM]
/-! the program's way: over the holes -/
def hlP (H : List Rg) (fr to : Nat) (j : Nat) : Bool := decide (fr ≤ j) && (decide (j < to) && insB H (j : Int))
theorem insB_take {H : List Rg} {i : Nat} (hi : i < H.length) (j : Int) : insB (H.take (i + 1)) j = (insB (H.take i) j || (decide (H[i].1 ≤ j) && decide (j < H[i].2.1))) := by
 unfold insB
 rw [List.take_succ_eq_append_getElem hi, List.any_append]
 simp
theorem splice_ovr {fr to : Nat} {b base : List Int} {H : List Rg} {i lo hi : Nat} (hi' : i < H.length) (hb : fr + b.length = to) (h1 : fr ≤ lo) (h2 : lo < hi) (h3 : hi ≤ to) (h4 : to ≤ base.length)
  (hin : ∀ j, fr ≤ j → j < to → ((H[i].1 ≤ (j : Int) ∧ (j : Int) < H[i].2.1) ↔ (lo ≤ j ∧ j < hi))) :
  splice (ovr (hlP (H.take i) fr to) fr b base) lo (((b.take (hi - fr)).drop (lo - fr)).take (min ((b.take (hi - fr)).drop (lo - fr)).length (hi - lo))) = ovr (hlP (H.take (i + 1)) fr to) fr b base := by
 have hl1 : ((b.take (hi - fr)).drop (lo - fr)).length = hi - lo := by rw [List.length_drop, List.length_take]; omega
 have htk : ((b.take (hi - fr)).drop (lo - fr)).take (hi - lo) = (b.take (hi - fr)).drop (lo - fr) := List.take_of_length_le (by omega)
 rw [hl1, Nat.min_self, htk]
 have ho := ovr_len (hlP (H.take i) fr to) fr b base
 refine List.ext_getElem? fun j => ?_
 rw [ovr_get]
 unfold splice
 have hlt : ((ovr (hlP (H.take i) fr to) fr b base).take lo).length = lo := by rw [List.length_take, ho]; omega
 have hstep : hlP (H.take (i + 1)) fr to j = (hlP (H.take i) fr to j || (decide (lo ≤ j) && decide (j < hi))) := by
  unfold hlP
  rw [insB_take hi']
  by_cases q1 : fr ≤ j
  ·by_cases q2 : j < to
   ·have := hin j q1 q2
    have e : (decide (H[i].1 ≤ (j : Int)) && decide ((j : Int) < H[i].2.1)) = (decide (lo ≤ j) && decide (j < hi)) := by
     rw [Bool.eq_iff_iff]; simpa using this
    rw [e]; simp [q1, q2]
   ·simp [q1, q2]; omega
  ·simp [q1]; omega
 by_cases c1 : j < lo
 ·rw [List.append_assoc, List.getElem?_append_left (by omega), List.getElem?_take, if_pos c1, ovr_get, hstep]
  have : decide (lo ≤ j) = false := decide_eq_false (by omega)
  simp [this]
 ·by_cases c2 : j < hi
  ·rw [List.append_assoc, List.getElem?_append_right (by omega), hlt, List.getElem?_append_left (by omega), List.getElem?_drop, List.getElem?_take, if_pos (by omega), if_pos (by omega), hstep]
   have e1 : decide (lo ≤ j) = true := decide_eq_true (by omega)
   have e2 : decide (j < hi) = true := decide_eq_true c2
   rw [e1, e2]
   simp only [Bool.and_self, Bool.or_true, if_true]
   rw [show lo - fr + (j - lo) = j - fr by omega, List.getD_eq_getElem?_getD, List.getElem?_eq_getElem (by omega)]
   rfl
  ·rw [List.getElem?_append_right (by rw [List.length_append, hlt]; omega), List.length_append, hlt, hl1, List.getElem?_drop, show lo + (hi - lo) + (j - (lo + (hi - lo))) = j by omega, ovr_get, hstep]
   have : decide (j < hi) = false := decide_eq_false (by omega)
   simp [this]
theorem f39_loop (k : Nat) (x0 : Bool → List Int → Option R) (hv : List Rg) (fr to : Nat) (b base : List Int) (H : List Rg) (hb : fr + b.length = to) (hbase : to ≤ base.length) (hbl : (base.length : Int) ≤ 1000000) (hHl : H.length ≤ 1000000)
  (hH : ∀ h ∈ H, 0 ≤ h.1 ∧ h.1 < h.2.1 ∧ h.2.1 ≤ (base.length : Int)) : ∀ (d i f : Nat), i + d = H.length → d < f →
   f39_0d k x0 hv (fr : Int) b (to : Int) (H.length : Int) H f (fresh (hlP (H.take i) fr to) to) (i : Int) (ovr (hlP (H.take i) fr to) fr b base) = x0 (fresh (hlP H fr to) to) (ovr (hlP H fr to) fr b base) := by
 intro d
 induction d with
 | zero =>
   intro i f hi hf
   obtain ⟨f, rfl⟩ := succ_of hf
   have h : decide ((i : Int) < (H.length : Int)) = false := by simp only [decide_eq_false_iff_not]; omega
   simp only [f39_0d, f39_0b, h, cond_false]
   rw [List.take_of_length_le (by omega)]
 | succ d ih =>
   intro i f hi hf
   obtain ⟨f, rfl⟩ := succ_of (show 0 < f by omega)
   have e1 : decide ((i : Int) < (H.length : Int)) = true := by simp only [decide_eq_true_eq]; omega
   have e2 : decide ((0 : Int) ≤ (i : Int)) = true := by simp only [decide_eq_true_eq]; omega
   have hlt : i < H.length := by omega
   have hw : IntKind.i64.wrap ((i : Int) + 1) = ((i + 1 : Nat) : Int) := by rw [wi (by omega) (by omega)]; rfl
   obtain ⟨g1, g2, g3⟩ := hH H[i] (List.getElem_mem hlt)
   simp only [f39_0d, f39_0b, e1, e2, Bool.and_self, cond_true, Int.toNat_natCast, getD_in hlt, hw, f39_1000011_def, f39_1000011d]
   obtain ⟨lo, hlo⟩ : ∃ lo : Nat, (if H[i].1 < (fr : Int) then (fr : Int) else H[i].1) = (lo : Int) ∧ fr ≤ lo ∧ ((lo : Int) = fr ∨ (lo : Int) = H[i].1) ∧ H[i].1 ≤ lo := by
    split
    ·exact ⟨fr, rfl, Nat.le_refl _, .inl rfl, by omega⟩
    ·exact ⟨H[i].1.toNat, by omega, by omega, .inr (by omega), by omega⟩
   obtain ⟨hi', hhi⟩ : ∃ hi' : Nat, (if (to : Int) < H[i].2.1 then (to : Int) else H[i].2.1) = (hi' : Int) ∧ hi' ≤ to ∧ ((hi' : Int) = to ∨ (hi' : Int) = H[i].2.1) ∧ (hi' : Int) ≤ H[i].2.1 := by
    split
    ·exact ⟨to, rfl, Nat.le_refl _, .inl rfl, by omega⟩
    ·exact ⟨H[i].2.1.toNat, by omega, by omega, .inr (by omega), by omega⟩
   rw [hlo.1, hhi.1]
   have hin : ∀ j, fr ≤ j → j < to → ((H[i].1 ≤ (j : Int) ∧ (j : Int) < H[i].2.1) ↔ (lo ≤ j ∧ j < hi')) := fun j h1 h2 => by omega
   by_cases c : lo < hi'
   ·have d1 : decide ((lo : Int) < (hi' : Int)) = true := by simp only [decide_eq_true_eq]; omega
    have d2 : decide ((0 : Int) ≤ (lo : Int)) = true := by simp only [decide_eq_true_eq]; omega
    have d3 : decide ((lo : Int) ≤ (hi' : Int)) = true := by simp only [decide_eq_true_eq]; omega
    have d4 : decide ((hi' : Int) ≤ ((ovr (hlP (H.take i) fr to) fr b base).length : Int)) = true := by rw [ovr_len]; simp only [decide_eq_true_eq]; omega
    have w1 : IntKind.i64.wrap ((lo : Int) - (fr : Int)) = ((lo - fr : Nat) : Int) := by rw [wi (by omega) (by omega)]; omega
    have w2 : IntKind.i64.wrap ((hi' : Int) - (fr : Int)) = ((hi' - fr : Nat) : Int) := by rw [wi (by omega) (by omega)]; omega
    have d5 : decide ((0 : Int) ≤ ((lo - fr : Nat) : Int)) = true := by simp only [decide_eq_true_eq]; omega
    have d6 : decide (((lo - fr : Nat) : Int) ≤ ((hi' - fr : Nat) : Int)) = true := by simp only [decide_eq_true_eq]; omega
    have d7 : decide (((hi' - fr : Nat) : Int) ≤ (b.length : Int)) = true := by simp only [decide_eq_true_eq]; omega
    simp only [d1, d2, d3, d4, w1, w2, d5, d6, d7, Bool.and_self, cond_true, Int.toNat_natCast]
    rw [splice_ovr hlt hb hlo.2.1 c hhi.2.1 hbase hin]
    have hfr : true = fresh (hlP (H.take (i + 1)) fr to) to := by
     refine (fresh_iff.2 ⟨lo, by omega, ?_⟩).symm
     unfold hlP
     rw [insB_take hlt]
     have := (hin lo hlo.2.1 (by omega)).2 ⟨Nat.le_refl _, c⟩
     simp [hlo.2.1, this]
     omega
    rw [hfr]
    exact ih (i + 1) f (by omega) (by omega)
   ·have d1 : decide ((lo : Int) < (hi' : Int)) = false := by simp only [decide_eq_false_iff_not]; omega
    simp only [d1, cond_false]
    have heq : ∀ j, hlP (H.take i) fr to j = hlP (H.take (i + 1)) fr to j := fun j => by
     unfold hlP
     rw [insB_take hlt]
     by_cases q1 : fr ≤ j
     ·by_cases q2 : j < to
      ·have := hin j q1 q2
       have e : (decide (H[i].1 ≤ (j : Int)) && decide ((j : Int) < H[i].2.1)) = false := by
        rw [Bool.eq_false_iff]; intro h'
        simp only [Bool.and_eq_true, decide_eq_true_eq] at h'
        have := this.1 h'
        omega
       rw [e, Bool.or_false]
      ·simp [q2]
     ·simp [q1]
    rw [fresh_congr (fun j _ => heq j), ovr_congr (fun j _ => heq j)]
    exact ih (i + 1) f (by omega) (by omega)
theorem hlP_holes {lim : Int} {hv : List Rg} (h : LOk lim hv) (fr to : Nat) (hto : (to : Int) ≤ lim) (j : Nat) : hlP (holesF hv lim) fr to j = putP hv fr to j := by
 unfold hlP putP
 by_cases q1 : fr ≤ j
 ·by_cases q2 : j < to
  ·have := holes_in h (j : Int)
   rw [← insB_iff, ← insB_iff] at this
   have e : insB (holesF hv lim) (j : Int) = !insB hv (j : Int) := by
    rw [Bool.eq_iff_iff, this]
    cases insB hv (j : Int) <;> simp <;> omega
   rw [e]
  ·simp [q2]
 ·simp [q1]
theorem holes_rg {lim : Int} {hv : List Rg} (h : LOk lim hv) : ∀ x ∈ holesF hv lim, 0 ≤ x.1 ∧ x.1 < x.2.1 ∧ x.2.1 ≤ lim := fun x hx => by
 have h1 := can_low (holes_can h) x hx
 have h2 := (holes_in h (x.2.1 - 1)).1 ⟨x, hx, by omega, by omega⟩
 omega
/-- What put makes of bytes that are there. -/
def putD (dat : List Int) (hv : List Rg) (fr : Nat) (b : List Int) : List Int := ovr (putP hv fr (fr + b.length)) fr b (padL dat (fr + b.length))
def putS (hv : List Rg) (fr n : Nat) : Bool := fresh (putP hv fr (fr + n)) (fr + n)
noncomputable def putH (hv : List Rg) (fr n : Nat) : List Rg := jn hv [((fr : Int), ((fr : Int) + (n : Int), ()))]
structure PutOk (dat : List Int) (hv : List Rg) (fr : Nat) (b : List Int) : Prop where
 dl : (dat.length : Int) ≤ 100000
 tl : (fr + b.length : Nat) ≤ 100000
 b1 : 0 < b.length
 hv : LOk ((max (fr + b.length) dat.length : Nat) : Int) hv
theorem PutOk.one {dat : List Int} {hv : List Rg} {fr : Nat} {b : List Int} (h : PutOk dat hv fr b) : LOk ((max (fr + b.length) dat.length : Nat) : Int) [((fr : Int), ((fr : Int) + (b.length : Int), ()))] := by
 have h1 := h.b1
 refine ⟨h.hv.bnd, by simp, ⟨by simp only; omega, by simp only; omega, trivial⟩, fun x hx => ?_⟩
 simp at hx
 subst hx
 simp only
 omega
theorem f39_eq {k : Nat} {dat : List Int} {hv : List Rg} {fr : Nat} {b : List Int} (h : PutOk dat hv fr b) (hk : 7000 < k) (K : Bool → List Int → List Rg → Option R) :
  f39 k dat hv (fr : Int) b K = K (putS hv fr b.length) (putD dat hv fr b) (putH hv fr b.length) := by
 obtain ⟨j, rfl⟩ := succ_of (show 0 < k by omega)
 have g1 := h.dl
 have g2 := h.tl
 have hl := h.hv.len
 have wt : IntKind.i64.wrap ((fr : Int) + (b.length : Int)) = ((fr + b.length : Nat) : Int) := by rw [wi (by omega) (by omega)]; rfl
 rw [f39_def]
 simp only [f39d, wt]
 rw [f27_eq (by omega) (by omega), f39_1000004_def]
 have hmax : (if ((fr + b.length : Nat) : Int) < (dat.length : Int) then (dat.length : Int) else ((fr + b.length : Nat) : Int)) = ((max (fr + b.length) dat.length : Nat) : Int) := by split <;> omega
 have hpl := padL_len dat (fr + b.length)
 have hhl := holesF_len hv ((max (fr + b.length) dat.length : Nat) : Int)
 have hgo : ∀ (Y : List Int → Option R), f39_1000004d j Y ((fr + b.length : Nat) : Int) (decide (((fr + b.length : Nat) : Int) > (dat.length : Int))) dat = Y (padL dat (fr + b.length)) := fun Y => by
  simp only [f39_1000004d]
  by_cases c : fr + b.length ≤ dat.length
  ·have e : decide (((fr + b.length : Nat) : Int) > (dat.length : Int)) = false := by simp only [decide_eq_false_iff_not]; omega
   rw [e, padL_le c]
   rfl
  ·have e : decide (((fr + b.length : Nat) : Int) > (dat.length : Int)) = true := by simp only [decide_eq_true_eq]; omega
   have w : IntKind.i64.wrap (((fr + b.length : Nat) : Int) - (dat.length : Int)) = ((fr + b.length - dat.length : Nat) : Int) := by rw [wi (by omega) (by omega)]; omega
   have hrep : repL [0] ((fr + b.length - dat.length : Nat) : Int) = List.replicate (fr + b.length - dat.length) 0 := by simp [repL]
   have hok : repOk [0] ((fr + b.length - dat.length : Nat) : Int) = true := by
    simp only [repOk, Bool.and_eq_true, decide_eq_true_eq]
    refine ⟨rfl, by omega, by omega, by decide, by decide⟩
   have hlim : decide (dat.length + (List.replicate (fr + b.length - dat.length) (0 : Int)).length ≤ LIM 1) = true := by rw [LIM1', List.length_replicate]; simp only [decide_eq_true_eq]; omega
   obtain ⟨m, rfl⟩ := succ_of (show 0 < j by omega)
   rw [e, f48_def]
   simp only [f48d, w, hok, cond_true, hrep, hlim]
   rfl
 rw [hgo, hmax, f49_eq (by omega) (by omega), f39_0_def]
 have hloop := f39_loop (R := R) j (fun y0_0_3 y0_0_4 => (f50 j hv ([((fr : Int), (((fr + b.length : Nat) : Int), ()))] : List Rg) (fun r30726_0 => (K y0_0_3 y0_0_4 r30726_0)))) hv fr (fr + b.length) b (padL dat (fr + b.length)) (holesF hv ((max (fr + b.length) dat.length : Nat) : Int)) rfl (by rw [hpl]; omega) (by rw [hpl]; omega) (by omega)
  (fun x hx => by have := holes_rg h.hv x hx; rw [hpl]; exact this) (holesF hv ((max (fr + b.length) dat.length : Nat) : Int)).length 0 j (by omega) (by omega)
 have e0 : ∀ q, hlP (List.take 0 (holesF hv ((max (fr + b.length) dat.length : Nat) : Int))) fr (fr + b.length) q = false := fun q => by simp [hlP, insB]
 have f0 : fresh (hlP (List.take 0 (holesF hv ((max (fr + b.length) dat.length : Nat) : Int))) fr (fr + b.length)) (fr + b.length) = false := by
  rw [Bool.eq_false_iff]; intro h'
  obtain ⟨q, _, hq⟩ := fresh_iff.1 h'
  rw [e0] at hq; cases hq
 rw [f0, ovr_none (fun q _ => e0 q)] at hloop
 refine hloop.trans ?_
 have hP : ∀ q, hlP (holesF hv ((max (fr + b.length) dat.length : Nat) : Int)) fr (fr + b.length) q = putP hv fr (fr + b.length) q := fun q => hlP_holes h.hv fr _ (by omega) q
 rw [fresh_congr (fun q _ => hP q), ovr_congr (fun q _ => hP q)]
 rw [Int.natCast_add, f50_eq (by omega) (by simp) (sortOk_of h.hv h.one) (by omega)]
 rfl
end Go.Proofs.Ytoepnomdklhhlaa.PM
/- Plain laws of receivers: the document's way to lay bytes into a file. -/
set_option linter.unusedSimpArgs false
set_option linter.unusedVariables false
namespace Go.Proofs.Ytoepnomdklhhlaa.PM
open Go Go.Proofs.Ytoepnomdklhhlaa.Bt
variable {R : Type}
end Go.Proofs.Ytoepnomdklhhlaa.PM
/- Plain laws of receivers: what a letter does. -/
set_option linter.unusedSimpArgs false
set_option linter.unusedVariables false
namespace Go.Proofs.Ytoepnomdklhhlaa.PM
open Go Go.Proofs.Ytoepnomdklhhlaa.Bt
variable {R : Type}
def conF (r : Rv) (kind : Int) (nm : ByteArray) (size sum fr : Int) (n : Nat) : Bool :=
 bif decide (kind = 2) then decide (0 ≤ r.sz) && decide (r.sz < fr + n) else
 (decide (0 ≤ r.sz) && (!decide (size = r.sz) || !decide (sum = r.sum))) || ((decide (kind = 1) && (!emp r.nm && !(nm.toList == r.nm.toList))) || decide (size < (r.dat.length : Int)))
theorem f38_eq {k : Nat} (hk : 0 < k) (r : Rv) (kind id : Int) (nm : ByteArray) (size sum fr : Int) (b : List Int) (hs : List Rg) (good : Bool) (h0 : 0 ≤ fr ∧ fr ≤ 100000) (hb : b.length ≤ 140737488355328) (K : Bool → Option R) :
  f38 k r.st r.id r.nm r.dat r.hv r.sz r.sum r.wt r.tr kind id nm size sum fr b hs good K = K (conF r kind nm size sum fr b.length) := by
 obtain ⟨j, rfl⟩ := succ_of hk
 have wt : IntKind.i64.wrap (fr + (b.length : Int)) = fr + (b.length : Int) := wi (by omega) (by omega)
 have es : (r.nm.toList == (⟨#[]⟩ : ByteArray).toList) = emp r.nm := rfl
 rw [f38_def]
 simp only [f38d, beq_dec, bne_dec, ge_iff_le, gt_iff_lt, wt, es, conF]
 generalize decide (kind = 2) = q1
 generalize decide (0 ≤ r.sz) = q2
 generalize decide (size = r.sz) = q3
 generalize decide (sum = r.sum) = q4
 generalize decide (kind = 1) = q5
 generalize emp r.nm = q6
 generalize (nm.toList == r.nm.toList) = q7
 generalize decide (r.sz < fr + (b.length : Int)) = q8
 generalize decide (size < (r.dat.length : Int)) = q9
 cases q1 <;> cases q2 <;> cases q3 <;> cases q4 <;> cases q5 <;> cases q6 <;> cases q7 <;> rfl
/-! a receiver that is right -/
structure RFull (r : Rv) : Prop where
 id : 0 ≤ r.id ∧ r.id ≤ 65535
 st : 0 ≤ r.st ∧ r.st ≤ 4
 nm : emp r.nm = true ∨ nameOk r.nm = true
 sz : -1 ≤ r.sz ∧ r.sz ≤ 100000
 sum : 0 ≤ r.sum ∧ r.sum ≤ 4294967295
 wt : 0 ≤ r.wt ∧ r.wt ≤ 1000000
 tr : 0 ≤ r.tr ∧ r.tr ≤ 50
 hv : LOk (if r.sz = -1 then 100000 else r.sz) r.hv
 dl : (r.dat.length : Int) = lastT 0 r.hv
 bad : badF r.hv r.dat 0 = false
 un : r.sz = -1 → r.sum = 0 ∧ emp r.nm = true
 state : stB (decide (r.st = 2)) (decide (r.wt = 0)) (decide (r.sz = -1)) (decide (r.st = 0)) (emp r.nm) (decide (r.dat.length = 0)) (decide (r.tr = 0)) (decide ((holesF r.hv r.sz).length = 0)) = false
theorem chkRecv_full (r : Rv) : chkRecv r = 0 ↔ RFull r := by
 unfold chkRecv
 constructor
 ·intro h
  by_cases h1 : inB r.id 0 65535 = false
  ·rw [if_pos h1] at h; cases h
  rw [if_neg h1] at h
  by_cases h2 : inB r.st 0 4 = false
  ·rw [if_pos h2] at h; cases h
  rw [if_neg h2] at h
  by_cases h3 : emp r.nm = false ∧ nameOk r.nm = false
  ·rw [if_pos h3] at h; cases h
  rw [if_neg h3] at h
  by_cases h4 : inB r.sz (-1) 100000 = false
  ·rw [if_pos h4] at h; cases h
  rw [if_neg h4] at h
  by_cases h5 : inB r.sum 0 4294967295 = false
  ·rw [if_pos h5] at h; cases h
  rw [if_neg h5] at h
  by_cases h6 : inB r.wt 0 1000000 = false
  ·rw [if_pos h6] at h; cases h
  rw [if_neg h6] at h
  by_cases h7 : inB r.tr 0 50 = false
  ·rw [if_pos h7] at h; cases h
  rw [if_neg h7] at h
  by_cases h8 : chkRgs r.hv (if r.sz = -1 then 100000 else r.sz) = 0
  ·rw [if_neg (fun e => e h8)] at h
   by_cases h9 : formV r = 0
   ·rw [if_neg (fun e => e h9)] at h
    split at h
    ·cases h
    ·rename_i h10
     have t : ∀ {a lo hi : Int}, ¬ inB a lo hi = false → lo ≤ a ∧ a ≤ hi := fun {a lo hi} e => inB_iff.1 (by cases q : inB a lo hi with | true => rfl | false => exact absurd q e)
     unfold formV at h9
     by_cases g1 : (r.dat.length : Int) ≠ lastT 0 r.hv
     ·rw [if_pos g1] at h9; cases h9
     rw [if_neg g1] at h9
     by_cases g2 : badF r.hv r.dat 0 = true
     ·rw [if_pos g2] at h9; cases h9
     rw [if_neg g2] at h9
     by_cases g3 : r.sz = -1 ∧ (r.sum ≠ 0 ∨ emp r.nm = false)
     ·rw [if_pos g3] at h9; cases h9
     refine ⟨t h1, t h2, ?_, t h4, t h5, t h6, t h7, chk_ok h8, ?_, by simpa using g2, fun e => ?_, by simpa using h10⟩
     ·cases q1 : emp r.nm with
      | true => exact .inl rfl
      | false => cases q2 : nameOk r.nm with
        | true => exact .inr rfl
        | false => exact absurd ⟨q1, q2⟩ h3
     ·exact Classical.not_not.1 g1
     ·refine ⟨Classical.not_not.1 fun e2 => g3 ⟨e, .inl e2⟩, ?_⟩
      cases q : emp r.nm with
      | true => rfl
      | false => exact absurd ⟨e, .inr q⟩ g3
   ·rw [if_pos h9] at h; exact absurd h h9
  ·rw [if_pos h8] at h; exact absurd h h8
 ·intro h
  have f : ∀ {a lo hi : Int}, lo ≤ a ∧ a ≤ hi → ¬ inB a lo hi = false := fun e q => by rw [inB_iff.2 e] at q; cases q
  have h9 : formV r = 0 := by
   unfold formV
   rw [if_neg (fun e => e h.dl), if_neg (by rw [h.bad]; simp), if_neg]
   rintro ⟨e, e2⟩
   have := h.un e
   rcases e2 with e2 | e2
   ·exact e2 this.1
   ·rw [this.2] at e2; cases e2
  rw [if_neg (f h.id), if_neg (f h.st), if_neg, if_neg (f h.sz), if_neg (f h.sum), if_neg (f h.wt), if_neg (f h.tr), if_neg (fun e => e (ok_chk h.hv)), if_neg (fun e => e h9), if_neg (by rw [h.state]; simp)]
  rintro ⟨e1, e2⟩
  rcases h.nm with e | e
  ·rw [e] at e1; cases e1
  ·rw [e] at e2; cases e2
/-- A letter that is right. -/
structure LFull (kind id : Int) (nm : ByteArray) (size sum : Int) (fr : Int) (b : List Int) : Prop where
 kd : 1 ≤ kind ∧ kind ≤ 6
 idr : 0 ≤ id ∧ id ≤ 65535
 nmr : kind = 1 → nameOk nm = true
 fig : kind = 1 ∨ kind = 3 → (0 ≤ size ∧ size ≤ 100000) ∧ (0 ≤ sum ∧ sum ≤ 4294967295)
 frr : 0 ≤ fr ∧ fr ≤ 100000
 bl : b.length ≤ 4096
 da : kind = 2 → 0 < b.length ∧ fr + b.length ≤ 100000
theorem chkLetter_full {kind id : Int} {nm : ByteArray} {size sum fr : Int} {b : List Int} {hs : List Rg} {good : Bool} (h : chkLetter kind id nm size sum fr b hs good = 0) : LFull kind id nm size sum fr b := by
 unfold chkLetter at h
 have t : ∀ {a lo hi : Int}, ¬ inB a lo hi = false → lo ≤ a ∧ a ≤ hi := fun {a lo hi} e => inB_iff.1 (by cases q : inB a lo hi with | true => rfl | false => exact absurd q e)
 by_cases h1 : inB kind 1 6 = false
 ·rw [if_pos h1] at h; cases h
 rw [if_neg h1] at h
 by_cases h2 : inB id 0 65535 = false
 ·rw [if_pos h2] at h; cases h
 rw [if_neg h2] at h
 by_cases h3 : extra kind (emp nm) size sum fr b.length hs.length good = true
 ·rw [if_pos h3] at h; cases h
 rw [if_neg h3] at h
 by_cases h4 : kind = 1 ∧ nameOk nm = false
 ·rw [if_pos h4] at h; cases h
 rw [if_neg h4] at h
 have hx : kind = 2 ∨ fr = 0 ∧ b.length = 0 := by
  by_cases e : kind = 2
  ·exact .inl e
  ·right
   simp [extra] at h3
   have q := h3.1.1.2 e
   exact ⟨q.1, by rw [q.2]; rfl⟩
 refine ⟨t h1, t h2, fun e => ?_, fun e => ?_, ?_, ?_, fun e => ?_⟩
 ·cases q : nameOk nm with
  | true => rfl
  | false => exact absurd ⟨e, q⟩ h4
 ·rw [if_pos e] at h
  split at h
  ·rename_i q
   exact ⟨inB_iff.1 q.1, inB_iff.1 q.2⟩
  ·cases h
 ·rcases hx with e | ⟨e, _⟩
  ·subst e
   rw [if_neg (by decide), if_pos rfl] at h
   by_cases q : inB fr 0 100000 = false
   ·rw [if_pos q] at h; cases h
   ·exact t q
  ·omega
 ·rcases hx with e | ⟨_, e⟩
  ·subst e
   rw [if_neg (by decide), if_pos rfl] at h
   by_cases q : inB fr 0 100000 = false
   ·rw [if_pos q] at h; cases h
   rw [if_neg q] at h
   by_cases q2 : b.length = 0
   ·omega
   rw [if_neg q2] at h
   by_cases q3 : 4096 < b.length
   ·rw [if_pos q3] at h; cases h
   omega
  ·omega
 ·subst e
  rw [if_neg (by decide), if_pos rfl] at h
  by_cases q : inB fr 0 100000 = false
  ·rw [if_pos q] at h; cases h
  rw [if_neg q] at h
  by_cases q2 : b.length = 0
  ·rw [if_pos q2] at h; cases h
  rw [if_neg q2] at h
  by_cases q3 : 4096 < b.length
  ·rw [if_pos q3] at h; cases h
  rw [if_neg q3] at h
  by_cases q4 : fr + b.length > 100000
  ·rw [if_pos q4] at h; cases h
  omega
theorem RFull.dl5 {r : Rv} (h : RFull r) : (r.dat.length : Int) ≤ 100000 ∧ (r.sz ≠ -1 → (r.dat.length : Int) ≤ r.sz) := by
 have h1 := lastT_bounds h.hv.srt
 have h2 := h.dl
 have h3 := h.hv.bnd
 have h4 := h1.2 h3.1
 split at h4 <;> constructor <;> omega
theorem RFull.put {r : Rv} (h : RFull r) {fr : Nat} {b : List Int} (h1 : 0 < b.length) (h2 : fr + b.length ≤ 100000) : PutOk r.dat r.hv fr b := by
 have h3 := h.dl5
 refine ⟨h3.1, h2, h1, ⟨by omega, h.hv.len, h.hv.can, fun x hx => ?_⟩⟩
 have := srt_last h.hv.srt x hx
 have := h.dl
 omega
/-! what a letter does -/
def doneL (r : Rv) (g : Bool) : Lt := (5, (r.id, (⟨#[]⟩, (0, (0, (0, ([], ([], (g, ())))))))))
noncomputable def endR (wait kind : Int) (r : Rv) : (Rv × List Lt) × Int :=
 if (!emp r.nm && (decide (0 ≤ r.sz) && decide ((holesF r.hv r.sz).length = 0))) = true then (({ r with st := if sumOf r.dat = r.sum then 3 else 4, wt := 0 }, [doneL r (decide (sumOf r.dat = r.sum))]), 0)
 else if kind ≠ 3 then ((r, []), 0)
 else if 2000 < (holesF r.hv r.sz).length then ((zR, []), 2) else (({ r with st := 2, wt := wait }, [holeL r]), 0)
def busy (r : Rv) : Rv := { r with st := if r.st = 0 then 1 else r.st }
noncomputable def putR (r : Rv) (fr : Nat) (b : List Int) : Rv := { r with dat := putD r.dat r.hv fr b, hv := putH r.hv fr b.length, tr := if putS r.hv fr b.length = true then 0 else r.tr }
def sizeR (r : Rv) (kind : Int) (nm : ByteArray) (size sum : Int) : Rv := { r with sz := size, sum := sum, nm := if kind = 1 then nm else r.nm }
noncomputable def tkR (wait : Int) (r : Rv) (kind id : Int) (nm : ByteArray) (size sum : Int) (fr : Nat) (b : List Int) : (Rv × List Lt) × Int :=
 if ¬ (kind = 1 ∨ kind = 2 ∨ kind = 3 ∨ kind = 6) ∨ id ≠ r.id ∨ r.st = 4 then ((r, []), 0)
 else if r.st = 3 then ((r, if kind = 3 then [doneL r true] else []), 0)
 else if kind = 6 then (({ r with st := 4, wt := 0 }, []), 0)
 else if conF r kind nm size sum fr b.length = true then (({ r with st := 4, wt := 0 }, [stopR r]), 0)
 else if kind = 2 then (if 2000 < (putH r.hv fr b.length).length then ((zR, []), 2) else endR wait kind (busy (putR r fr b)))
 else endR wait kind (busy (sizeR r kind nm size sum))
end Go.Proofs.Ytoepnomdklhhlaa.PM
/- Plain laws of receivers: what a letter does, on both sides. -/
set_option linter.unusedSimpArgs false
set_option linter.unusedVariables false
namespace Go.Proofs.Ytoepnomdklhhlaa.PM
open Go Go.Proofs.Ytoepnomdklhhlaa.Bt
variable {R : Type}
theorem ttake92 {k : Nat} (a0 a1 a2 a3 a4 a5 a6 : Int) (a7 : ByteArray) (a8 : List Int) (a9 : List Rg) (a10 a11 a12 a13 a14 a15 : Int) (a16 : ByteArray) (a17 a18 a19 : Int) (a20 : List Int) (a21 : List Rg) (a22 : Bool) (nm : ByteArray) (dat : List Int) (hv : List Rg) (sz sum tr : Int) (hk : 110000 < k) (hl : hv.length ≤ 2000) (hd : (dat.length : Int) ≤ 100000) (hu : U8 dat) (h3 : a14 = 3 → 0 ≤ sz) (K : Int → Int → ByteArray → List Int → List Rg → Int → Int → Int → Int → Int → List Lt → Option R) :
  (fun y15_N_7 y15_N_8 y15_N_9 y15_N_10 y15_N_11 y15_N_13 => (f29_1000025 k (fun y25_N_5 => (bif ((!(y15_N_7.toList == (⟨#[]⟩ : ByteArray).toList)) == true) then (bif (decide (y15_N_10 ≥ (0 : Int)) == true) then (f40 k y25_N_5 a6 y15_N_7 y15_N_8 y15_N_9 y15_N_10 y15_N_11 a12 y15_N_13 (fun r55306_0 => (bif ((r55306_0.length : Int) == (0 : Int)) then (f41 k y15_N_8 (fun r57346_0 => (f29_1000030 k (fun y30_N_1 => (K y30_N_1 a6 y15_N_7 y15_N_8 y15_N_9 y15_N_10 y15_N_11 (0 : Int) y15_N_13 (0 : Int) ([((5 : Int), (a6, ((⟨#[]⟩ : ByteArray), ((0 : Int), ((0 : Int), ((0 : Int), (([] : List Int), (([] : List ((Int × (Int × Unit)))), ((r57346_0 == y15_N_11), ())))))))))] : List Lt))) (r57346_0 == y15_N_11) (4 : Int)))) else (bif (a14 != (3 : Int)) then (K y25_N_5 a6 y15_N_7 y15_N_8 y15_N_9 y15_N_10 y15_N_11 a12 y15_N_13 (0 : Int) ([] : List ((Int × (Int × (ByteArray × (Int × (Int × (Int × (List Int × (List ((Int × (Int × Unit))) × (Bool × Unit)))))))))))) else (f42 k (2 : Int) a6 y15_N_7 y15_N_8 y15_N_9 y15_N_10 y15_N_11 a3 y15_N_13 (fun r73729_0 r73729_1 => (bif (r73729_1 != (0 : Int)) then (K (0 : Int) (0 : Int) (⟨#[]⟩ : ByteArray) ([] : List Int) ([] : List ((Int × (Int × Unit)))) (0 : Int) (0 : Int) (0 : Int) (0 : Int) r73729_1 ([] : List ((Int × (Int × (ByteArray × (Int × (Int × (Int × (List Int × (List ((Int × (Int × Unit))) × (Bool × Unit)))))))))))) else (K (2 : Int) a6 y15_N_7 y15_N_8 y15_N_9 y15_N_10 y15_N_11 a3 y15_N_13 (0 : Int) ([((4 : Int), (a6, ((⟨#[]⟩ : ByteArray), ((0 : Int), ((0 : Int), ((0 : Int), (([] : List Int), (r73729_0, (false, ())))))))))] : List Lt))))))))) else (bif (a14 != (3 : Int)) then (K y25_N_5 a6 y15_N_7 y15_N_8 y15_N_9 y15_N_10 y15_N_11 a12 y15_N_13 (0 : Int) ([] : List ((Int × (Int × (ByteArray × (Int × (Int × (Int × (List Int × (List ((Int × (Int × Unit))) × (Bool × Unit)))))))))))) else (f42 k (2 : Int) a6 y15_N_7 y15_N_8 y15_N_9 y15_N_10 y15_N_11 a3 y15_N_13 (fun r73729_0 r73729_1 => (bif (r73729_1 != (0 : Int)) then (K (0 : Int) (0 : Int) (⟨#[]⟩ : ByteArray) ([] : List Int) ([] : List ((Int × (Int × Unit)))) (0 : Int) (0 : Int) (0 : Int) (0 : Int) r73729_1 ([] : List ((Int × (Int × (ByteArray × (Int × (Int × (Int × (List Int × (List ((Int × (Int × Unit))) × (Bool × Unit)))))))))))) else (K (2 : Int) a6 y15_N_7 y15_N_8 y15_N_9 y15_N_10 y15_N_11 a3 y15_N_13 (0 : Int) ([((4 : Int), (a6, ((⟨#[]⟩ : ByteArray), ((0 : Int), ((0 : Int), ((0 : Int), (([] : List Int), (r73729_0, (false, ())))))))))] : List Lt))))))) else (bif (a14 != (3 : Int)) then (K y25_N_5 a6 y15_N_7 y15_N_8 y15_N_9 y15_N_10 y15_N_11 a12 y15_N_13 (0 : Int) ([] : List ((Int × (Int × (ByteArray × (Int × (Int × (Int × (List Int × (List ((Int × (Int × Unit))) × (Bool × Unit)))))))))))) else (f42 k (2 : Int) a6 y15_N_7 y15_N_8 y15_N_9 y15_N_10 y15_N_11 a3 y15_N_13 (fun r73729_0 r73729_1 => (bif (r73729_1 != (0 : Int)) then (K (0 : Int) (0 : Int) (⟨#[]⟩ : ByteArray) ([] : List Int) ([] : List ((Int × (Int × Unit)))) (0 : Int) (0 : Int) (0 : Int) (0 : Int) r73729_1 ([] : List ((Int × (Int × (ByteArray × (Int × (Int × (Int × (List Int × (List ((Int × (Int × Unit))) × (Bool × Unit)))))))))))) else (K (2 : Int) a6 y15_N_7 y15_N_8 y15_N_9 y15_N_10 y15_N_11 a3 y15_N_13 (0 : Int) ([((4 : Int), (a6, ((⟨#[]⟩ : ByteArray), ((0 : Int), ((0 : Int), ((0 : Int), (([] : List Int), (r73729_0, (false, ())))))))))] : List Lt)))))))) (a5 == (0 : Int)) a5)) nm dat hv sz sum tr = apRF K (endR a3 a14 (busy ⟨a5, a6, nm, dat, hv, sz, sum, a12, tr⟩)) := by
 have es : (nm.toList == (⟨#[]⟩ : ByteArray).toList) = emp nm := rfl
 have hst : ∀ (X : Int → Option R), f29_1000025d k X (a5 == 0) a5 = X (if a5 = 0 then 1 else a5) := fun X => by
  simp only [f29_1000025d, beq_dec]
  by_cases e : a5 = 0 <;> simp [e]
 simp only [f29_1000025_def]
 rw [hst]
 generalize hs : (if a5 = 0 then 1 else a5) = st
 have e95 := fun K' => f40_eq (R := R) (k := k) ⟨st, a6, nm, dat, hv, sz, sum, a12, tr⟩ (by simp only; omega) (by simp only; omega) K'
 have e112 := fun K' => f42_eq (R := R) (k := k) ⟨2, a6, nm, dat, hv, sz, sum, a3, tr⟩ hl (by simp only; omega) K'
 have e64 := fun K' => f41_eq (R := R) (k := k) (l := dat) (by omega) hd hu K'
 simp only at e95 e112
 simp only [es, e95, e112, e64, busy, hs, endR, leneq, beq_dec, bne_dec, ge_iff_le, f29_1000030_def, f29_1000030d, doneL]
 cases q1 : emp nm <;> by_cases q2 : 0 ≤ sz <;> by_cases q3 : (holesF hv sz).length = 0 <;> by_cases q4 : sumOf dat = sum <;> by_cases q5 : a14 = 3 <;> by_cases q6 : 2000 < (holesF hv sz).length <;> simp [q1, q2, q3, q4, q5, q6, apRF, zR, holeL, lackF]
theorem u8_put {dat : List Int} {hv : List Rg} {fr : Nat} {b : List Int} (h1 : U8 dat) (h2 : U8 b) : U8 (putD dat hv fr b) := by
 intro x hx
 obtain ⟨j, hj⟩ := List.mem_iff_getElem?.1 hx
 unfold putD at hj
 rw [ovr_get] at hj
 split at hj
 ·rename_i hlt
  have hd : ∀ (l : List Int) (i : Nat), U8 l → 0 ≤ l.getD i 0 ∧ l.getD i 0 ≤ 255 := fun l i hl => by
   rw [List.getD_eq_getElem?_getD]
   cases q : l[i]? with
   | none => simp
   | some y => simpa using hl y (List.mem_of_getElem? q)
  have hp : U8 (padL dat (fr + b.length)) := fun y hy => by
   unfold padL at hy
   rcases List.mem_append.1 hy with hy | hy
   ·exact h1 y hy
   ·have := (List.mem_replicate.1 hy).2; subst this; simp
  simp only [Option.some.injEq] at hj
  subst hj
  split
  ·exact hd b _ h2
  ·exact hd _ _ hp
 ·cases hj
theorem putD_len (dat : List Int) (hv : List Rg) (fr : Nat) (b : List Int) : (putD dat hv fr b).length = max (fr + b.length) dat.length := by
 unfold putD; rw [ovr_len, padL_len]
theorem f29_eq {k : Nat} (a0 a1 a2 wait a4 : Int) (r : Rv) (kind id : Int) (nm : ByteArray) (size sum : Int) (fr : Nat) (b : List Int) (hs : List Rg) (good : Bool) (hr : RFull r) (hL : LFull kind id nm size sum fr b) (hu : U8 r.dat) (hub : U8 b) (hk : 110010 < k)
  (K : Int → Int → ByteArray → List Int → List Rg → Int → Int → Int → Int → Int → List Lt → Option R) :
  f29 k a0 a1 a2 wait a4 r.st r.id r.nm r.dat r.hv r.sz r.sum r.wt r.tr kind id nm size sum (fr : Int) b hs good K = apRF K (tkR wait r kind id nm size sum fr b) := by
 obtain ⟨j, rfl⟩ := succ_of (show 0 < k by omega)
 rw [f29_def]
 have hkd := hL.kd
 have hfr := hL.frr
 have hbl := hL.bl
 have hd5 := hr.dl5
 have hhl := hr.hv.len
 have e119 := fun K' => f38_eq (R := R) (k := j) (by omega) r kind id nm size sum fr b hs good hfr (by omega) K'
 have hTF : (true == false) = false := rfl
 have hFF : (false == false) = true := rfl
 have hTT : (true == true) = true := rfl
 by_cases h45 : kind = 4 ∨ kind = 5
 ·rcases h45 with rfl | rfl <;> simp [f29d, tkR, apRF]
 by_cases hid : id = r.id
 ·subst hid
  by_cases h4 : r.st = 4
  ·rcases (show kind = 1 ∨ kind = 2 ∨ kind = 3 ∨ kind = 6 by omega) with rfl | rfl | rfl | rfl <;> simp [f29d, tkR, apRF, h4]
  ·have e4 : (r.st == 4) = false := by simp [h4]
   by_cases h3 : r.st = 3
   ·rcases (show kind = 1 ∨ kind = 2 ∨ kind = 3 ∨ kind = 6 by omega) with rfl | rfl | rfl | rfl <;> simp [f29d, tkR, apRF, h4, h3, doneL]
   ·have e3 : (r.st == 3) = false := by simp [h3]
    by_cases h6 : kind = 6
    ·subst h6
     simp [f29d, tkR, apRF, h4, h3, e4, e3]
    ·cases hc : conF r kind nm size sum fr b.length with
     | true =>
       rcases (show kind = 1 ∨ kind = 2 ∨ kind = 3 by omega) with rfl | rfl | rfl <;> simp [f29d, tkR, apRF, h4, h3, e4, e3, e119, hc, stopR]
     | false =>
       by_cases h2 : kind = 2
       ·subst h2
        obtain ⟨da1, da2⟩ := hL.da rfl
        have hp := hr.put da1 (show fr + b.length ≤ 100000 by omega)
        have e120 := fun K' => f39_eq (R := R) (k := j) hp (by omega) K'
        have hlen := putD_len r.dat r.hv fr b
        have hU := u8_put (hv := r.hv) (fr := fr) hu hub
        have hz : (2 : Int) = 3 → 0 ≤ r.sz := fun e => by omega
        simp only [f29d, e119, hc, e4, e3, Int.reduceBEq, Int.reduceBNe, bne_self_eq_false, Bool.not_true, cond_true, cond_false, hTF, hFF, hTT, Bool.not_false, f29_1000015_def, f29_1000015d, e120, f29_1000018_def, f29_1000018d]
        have d2 : decide (((putH r.hv fr b.length).length : Int) > 2000) = decide (2000 < (putH r.hv fr b.length).length) := by rw [Bool.eq_iff_iff]; simp only [decide_eq_true_eq]; omega
        have hT : tkR wait r 2 r.id nm size sum fr b = if 2000 < (putH r.hv fr b.length).length then ((zR, []), 2) else endR wait 2 (busy (putR r fr b)) := by
         unfold tkR
         rw [if_neg (by simp [h4]), if_neg h3, if_neg (by decide), if_neg (by rw [hc]; simp), if_pos rfl]
        rw [hT, d2]
        by_cases c2 : 2000 < (putH r.hv fr b.length).length
        ·rw [if_pos c2, decide_eq_true c2]
         cases putS r.hv fr b.length <;> rfl
        ·rw [if_neg c2, decide_eq_false c2]
         cases hq : putS r.hv fr b.length with
         | true =>
           have := ttake92 (R := R) (k := j) (a0 := a0) (a1 := a1) (a2 := a2) (a3 := wait) (a4 := a4) (a5 := r.st) (a6 := r.id) (a7 := r.nm) (a8 := r.dat) (a9 := r.hv) (a10 := r.sz) (a11 := r.sum) (a12 := r.wt) (a13 := r.tr) (a14 := 2) (a15 := r.id) (a16 := nm) (a17 := size) (a18 := sum) (a19 := (fr : Int)) (a20 := b) (a21 := hs) (a22 := good) r.nm (putD r.dat r.hv fr b) (putH r.hv fr b.length) r.sz r.sum 0 (by omega) (by omega) (by omega) hU hz K
           simp only [cond_true, cond_false, putR, hq, if_true]
           exact this
         | false =>
           have := ttake92 (R := R) (k := j) (a0 := a0) (a1 := a1) (a2 := a2) (a3 := wait) (a4 := a4) (a5 := r.st) (a6 := r.id) (a7 := r.nm) (a8 := r.dat) (a9 := r.hv) (a10 := r.sz) (a11 := r.sum) (a12 := r.wt) (a13 := r.tr) (a14 := 2) (a15 := r.id) (a16 := nm) (a17 := size) (a18 := sum) (a19 := (fr : Int)) (a20 := b) (a21 := hs) (a22 := good) r.nm (putD r.dat r.hv fr b) (putH r.hv fr b.length) r.sz r.sum r.tr (by omega) (by omega) (by omega) hU hz K
           simp only [cond_true, cond_false, putR, hq, if_false, Bool.false_eq_true]
           exact this
       ·have hT : tkR wait r kind r.id nm size sum fr b = endR wait kind (busy (sizeR r kind nm size sum)) := by
         unfold tkR
         rw [if_neg (by simp [h4]; omega), if_neg h3, if_neg h6, if_neg (by rw [hc]; simp), if_neg h2]
        rw [hT]
        rcases (show kind = 1 ∨ kind = 3 by omega) with rfl | rfl
        ·have hfig := hL.fig (.inl rfl)
         simp only [f29d, e119, hc, e4, e3, Int.reduceBEq, Int.reduceBNe, bne_self_eq_false, Bool.not_true, cond_true, cond_false, hTF, hFF, hTT, Bool.not_false, f29_1000015_def, f29_1000015d, f29_1000023_def, f29_1000023d]
         exact ttake92 (R := R) (k := j) (a0 := a0) (a1 := a1) (a2 := a2) (a3 := wait) (a4 := a4) (a5 := r.st) (a6 := r.id) (a7 := r.nm) (a8 := r.dat) (a9 := r.hv) (a10 := r.sz) (a11 := r.sum) (a12 := r.wt) (a13 := r.tr) (a14 := 1) (a15 := r.id) (a16 := nm) (a17 := size) (a18 := sum) (a19 := (fr : Int)) (a20 := b) (a21 := hs) (a22 := good) nm r.dat r.hv size sum r.tr (by omega) (by omega) (by omega) hu (by omega) K
        ·have hfig := hL.fig (.inr rfl)
         simp only [f29d, e119, hc, e4, e3, Int.reduceBEq, Int.reduceBNe, bne_self_eq_false, Bool.not_true, cond_true, cond_false, hTF, hFF, hTT, Bool.not_false, f29_1000015_def, f29_1000015d, f29_1000023_def, f29_1000023d]
         exact ttake92 (R := R) (k := j) (a0 := a0) (a1 := a1) (a2 := a2) (a3 := wait) (a4 := a4) (a5 := r.st) (a6 := r.id) (a7 := r.nm) (a8 := r.dat) (a9 := r.hv) (a10 := r.sz) (a11 := r.sum) (a12 := r.wt) (a13 := r.tr) (a14 := 3) (a15 := r.id) (a16 := nm) (a17 := size) (a18 := sum) (a19 := (fr : Int)) (a20 := b) (a21 := hs) (a22 := good) r.nm r.dat r.hv size sum r.tr (by omega) (by omega) (by omega) hu (by omega) K
 ·have eid : (id != r.id) = true := by simp [hid]
  rcases (show kind = 1 ∨ kind = 2 ∨ kind = 3 ∨ kind = 6 by omega) with rfl | rfl | rfl | rfl <;> simp [f29d, tkR, apRF, hid, eid]
end Go.Proofs.Ytoepnomdklhhlaa.PM
/- Plain laws of receivers: what a letter does, the document's side; Take. -/
set_option linter.unusedSimpArgs false
set_option linter.unusedVariables false
namespace Go.Proofs.Ytoepnomdklhhlaa.PM
open Go Go.Proofs.Ytoepnomdklhhlaa.Bt
variable {R : Type}
end Go.Proofs.Ytoepnomdklhhlaa.PM

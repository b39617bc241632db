/- Plain laws of spans: what is joined. -/
import Derived.Test.YtlcklflbhhnnhaaPlRecv
import Derived.Test.YtlcklflbhhnnhaaSrtD
set_option linter.unusedSimpArgs false
set_option linter.unusedVariables false
namespace Go.Proofs.Ytlcklflbhhnnhaa.PM
open Go Go.Proofs.Ytlcklflbhhnnhaa.Bt
variable {R : Type}

def mxI (a b : Int) : Int := if a < b then b else a
/-- One span more. -/
def swl : Rg → List Rg → List Rg
  | c, [] => [c]
  | c, x :: l => if x.1 ≤ c.2.1 then swl (c.1, (mxI c.2.1 x.2.1, ())) l else c :: swl x l
def sweep : List Rg → List Rg
  | [] => []
  | x :: l => swl x l
def Ne (l : List Rg) : Prop := ∀ x ∈ l, x.1 < x.2.1
def Up (l : List Rg) : Prop := l.Pairwise fun x y => x.1 ≤ y.1
theorem inR_cons {x : Rg} {l : List Rg} {j : Int} : inR (x :: l) j ↔ (x.1 ≤ j ∧ j < x.2.1) ∨ inR l j := by
  constructor
  · rintro ⟨y, hy, h⟩
    rcases List.mem_cons.1 hy with rfl | hy
    · exact Or.inl h
    · exact Or.inr ⟨y, hy, h⟩
  · rintro (h | ⟨y, hy, h⟩)
    · exact ⟨x, by simp, h⟩
    · exact ⟨y, by simp [hy], h⟩
theorem inR_app {l m : List Rg} {j : Int} : inR (l ++ m) j ↔ inR l j ∨ inR m j := by
  constructor
  · rintro ⟨y, hy, h⟩
    rcases List.mem_append.1 hy with hy | hy
    · exact Or.inl ⟨y, hy, h⟩
    · exact Or.inr ⟨y, hy, h⟩
  · rintro (⟨y, hy, h⟩ | ⟨y, hy, h⟩)
    · exact ⟨y, by simp [hy], h⟩
    · exact ⟨y, by simp [hy], h⟩
theorem inR_perm {l m : List Rg} (h : l.Perm m) {j : Int} : inR l j ↔ inR m j := by
  constructor
  · rintro ⟨y, hy, hj⟩; exact ⟨y, h.mem_iff.1 hy, hj⟩
  · rintro ⟨y, hy, hj⟩; exact ⟨y, h.mem_iff.2 hy, hj⟩
/-- Lists of spans apart from each other, in order. -/
def Can : Int → List Rg → Prop
  | _, [] => True
  | a, x :: l => a < x.1 ∧ x.1 < x.2.1 ∧ Can x.2.1 l
theorem can_low : ∀ {a : Int} {l : List Rg}, Can a l → ∀ x ∈ l, a < x.1 ∧ x.1 < x.2.1
  | _, [], _, x, hx => by cases hx
  | a, y :: l, ⟨h1, h2, h3⟩, x, hx => by
    rcases List.mem_cons.1 hx with rfl | hx
    · exact ⟨h1, h2⟩
    · have := can_low h3 x hx
      exact ⟨by omega, this.2⟩
theorem can_in {a : Int} {l : List Rg} (h : Can a l) {j : Int} (hj : inR l j) : a < j := by
  obtain ⟨x, hx, h1, h2⟩ := hj
  have := can_low h x hx
  omega
theorem can_eq : ∀ {a : Int} {l m : List Rg}, Can a l → Can a m → (∀ j, inR l j ↔ inR m j) → l = m
  | _, [], [], _, _, _ => rfl
  | a, [], y :: m, _, ⟨_, h2, _⟩, h => by
    obtain ⟨z, hz, _⟩ := (h y.1).2 ⟨y, by simp, by omega, h2⟩
    cases hz
  | a, x :: l, [], ⟨_, h2, _⟩, _, h => by
    obtain ⟨z, hz, _⟩ := (h x.1).1 ⟨x, by simp, by omega, h2⟩
    cases hz
  | a, x :: l, y :: m, ⟨x1, x2, x3⟩, ⟨y1, y2, y3⟩, h => by
    have e1 : x.1 = y.1 := by
      have p := (h x.1).1 ⟨x, by simp, by omega, x2⟩
      have q := (h y.1).2 ⟨y, by simp, by omega, y2⟩
      rw [inR_cons] at p q
      have p' : y.1 ≤ x.1 := by
        rcases p with p | p
        · exact p.1
        · have := can_in y3 p; omega
      have q' : x.1 ≤ y.1 := by
        rcases q with q | q
        · exact q.1
        · have := can_in x3 q; omega
      omega
    have e2 : x.2.1 = y.2.1 := by
      have no1 : ¬ inR (x :: l) x.2.1 := by
        rw [inR_cons]
        rintro (p | p)
        · omega
        · have := can_in x3 p; omega
      have no2 : ¬ inR (y :: m) y.2.1 := by
        rw [inR_cons]
        rintro (p | p)
        · omega
        · have := can_in y3 p; omega
      by_cases c1 : x.2.1 < y.2.1
      · exact absurd ((h x.2.1).2 ⟨y, by simp, by omega, c1⟩) no1
      · by_cases c2 : y.2.1 < x.2.1
        · exact absurd ((h y.2.1).1 ⟨x, by simp, by omega, c2⟩) no2
        · omega
    have exy : x = y := Prod.ext e1 (Prod.ext e2 rfl)
    subst exy
    have : l = m := can_eq x3 y3 fun j => by
      have hj := h j
      rw [inR_cons, inR_cons] at hj
      constructor
      · intro p
        rcases hj.1 (Or.inr p) with q | q
        · have := can_in x3 p; omega
        · exact q
      · intro p
        rcases hj.2 (Or.inr p) with q | q
        · have := can_in y3 p; omega
        · exact q
    rw [this]
theorem swl_can : ∀ {a : Int} {c : Rg} {l : List Rg}, a < c.1 → c.1 < c.2.1 → Ne l → (∀ x ∈ l, c.1 ≤ x.1) → Up l → Can a (swl c l)
  | a, c, [], h1, h2, _, _, _ => ⟨h1, h2, trivial⟩
  | a, c, x :: l, h1, h2, hn, hc, hu => by
    have hx := hn x (by simp)
    have hcx := hc x (by simp)
    rw [Up, List.pairwise_cons] at hu
    simp only [swl]
    split
    · refine swl_can (c := (c.1, (mxI c.2.1 x.2.1, ()))) h1 ?_ (fun y hy => hn y (by simp [hy])) (fun y hy => hc y (by simp [hy])) hu.2
      show c.1 < mxI c.2.1 x.2.1
      unfold mxI; split <;> omega
    · exact ⟨h1, h2, swl_can (by omega) hx (fun y hy => hn y (by simp [hy])) (fun y hy => hu.1 y hy) hu.2⟩
theorem swl_in : ∀ {c : Rg} {l : List Rg}, c.1 < c.2.1 → Ne l → (∀ x ∈ l, c.1 ≤ x.1) → Up l → ∀ j, inR (swl c l) j ↔ inR (c :: l) j
  | c, [], _, _, _, _, j => Iff.rfl
  | c, x :: l, h2, hn, hc, hu, j => by
    have hx := hn x (by simp)
    have hcx := hc x (by simp)
    rw [Up, List.pairwise_cons] at hu
    simp only [swl]
    split
    · rename_i hle
      have hm : c.1 < mxI c.2.1 x.2.1 := by unfold mxI; split <;> omega
      rw [swl_in (c := (c.1, (mxI c.2.1 x.2.1, ()))) hm (fun y hy => hn y (by simp [hy])) (fun y hy => hc y (by simp [hy])) hu.2 j, inR_cons, inR_cons, inR_cons]
      have : (c.1 ≤ j ∧ j < mxI c.2.1 x.2.1) ↔ ((c.1 ≤ j ∧ j < c.2.1) ∨ (x.1 ≤ j ∧ j < x.2.1)) := by
        unfold mxI
        split <;> constructor <;> omega
      rw [show ((c.1, (mxI c.2.1 x.2.1, ())) : Rg).1 = c.1 from rfl, show ((c.1, (mxI c.2.1 x.2.1, ())) : Rg).2.1 = mxI c.2.1 x.2.1 from rfl, this, or_assoc]
    · rw [inR_cons, swl_in hx (fun y hy => hn y (by simp [hy])) (fun y hy => hu.1 y hy) hu.2 j, inR_cons (x := c)]
theorem sweep_can {a : Int} {l : List Rg} (hl : ∀ x ∈ l, a < x.1) (hn : Ne l) (hu : Up l) : Can a (sweep l) := by
  cases l with
  | nil => trivial
  | cons x l =>
    have hu' := hu
    rw [Up, List.pairwise_cons] at hu'
    exact swl_can (hl x (by simp)) (hn x (by simp)) (fun y hy => hn y (by simp [hy])) hu'.1 hu'.2
theorem sweep_in {l : List Rg} (hn : Ne l) (hu : Up l) (j : Int) : inR (sweep l) j ↔ inR l j := by
  cases l with
  | nil => exact Iff.rfl
  | cons x l =>
    have hu' := hu
    rw [Up, List.pairwise_cons] at hu'
    exact swl_in (hn x (by simp)) (fun y hy => hn y (by simp [hy])) hu'.1 hu'.2 j
theorem swl_len : ∀ (c : Rg) (l : List Rg), (swl c l).length ≤ l.length + 1
  | c, [] => by simp [swl]
  | c, x :: l => by
    simp only [swl]
    split
    · have := swl_len (c.1, (mxI c.2.1 x.2.1, ())) l; simp only [List.length_cons]; omega
    · have := swl_len x l; simp only [List.length_cons]; omega
theorem sweep_len (l : List Rg) : (sweep l).length ≤ l.length := by
  cases l with
  | nil => simp [sweep]
  | cons x l => have := swl_len x l; simp only [sweep, List.length_cons]; omega

/-! the walk over a list -/
def stp (o : List Rg) (x : Rg) : List Rg := match o.getLast? with
  | some c => if x.1 ≤ c.2.1 then o.dropLast ++ [(c.1, (mxI c.2.1 x.2.1, ()))] else o ++ [x]
  | none => [x]
def swO (o : List Rg) : List Rg → List Rg
  | [] => o
  | x :: l => swO (stp o x) l
theorem swO_swl : ∀ (l : List Rg) (p : List Rg) (c : Rg), swO (p ++ [c]) l = p ++ swl c l
  | [], p, c => rfl
  | x :: l, p, c => by
    have h : stp (p ++ [c]) x = if x.1 ≤ c.2.1 then p ++ [(c.1, (mxI c.2.1 x.2.1, ()))] else (p ++ [c]) ++ [x] := by simp [stp]
    simp only [swO, swl]
    rw [h]
    split
    · exact swO_swl l p _
    · rw [swO_swl l (p ++ [c]) x, List.append_assoc]; rfl
theorem swO_sweep (l : List Rg) : swO [] l = sweep l := by
  cases l with
  | nil => rfl
  | cons x l => exact swO_swl l [] x
theorem stp_len (o : List Rg) (x : Rg) : (stp o x).length ≤ o.length + 1 := by
  unfold stp
  cases h : o.getLast? with
  | none => simp
  | some c =>
    have : 0 < o.length := by cases o with | nil => simp at h | cons a l => simp
    simp only
    split
    · simp only [List.length_append, List.length_dropLast, List.length_singleton]; omega
    · simp
theorem step_len {o : List Rg} {x : Rg} : o.length ≤ 100000 → (stp o x).length ≤ o.length + 1 := fun _ => stp_len o x
/-- What the code does with one span. -/
theorem code_step (o : List Rg) (x : Rg) (ho : o.length ≤ 1000000) (X : List Rg → Option R) :
    (bif (decide ((o.length : Int) > 0) == true) then (bif (decide (0 ≤ IntKind.i64.wrap ((o.length : Int) - 1)) && decide (IntKind.i64.wrap ((o.length : Int) - 1) < (o.length : Int))) then
        (bif decide (x.1 ≤ ((o.getD (Int.toNat (IntKind.i64.wrap ((o.length : Int) - 1))) (0, (0, ()))).2).1) then
          (bif (decide (0 ≤ IntKind.i64.wrap ((o.length : Int) - 1)) && decide (IntKind.i64.wrap ((o.length : Int) - 1) < (o.length : Int))) then (bif (decide (0 ≤ IntKind.i64.wrap ((o.length : Int) - 1)) && decide (IntKind.i64.wrap ((o.length : Int) - 1) < (o.length : Int))) then
            X (o.set (Int.toNat (IntKind.i64.wrap ((o.length : Int) - 1))) ((o.getD (Int.toNat (IntKind.i64.wrap ((o.length : Int) - 1))) (0, (0, ()))).1, ((if ((o.getD (Int.toNat (IntKind.i64.wrap ((o.length : Int) - 1))) (0, (0, ()))).2).1 < x.2.1 then x.2.1 else ((o.getD (Int.toNat (IntKind.i64.wrap ((o.length : Int) - 1))) (0, (0, ()))).2).1), ()))) else none) else none)
          else (bif decide (o.length + ([(x.1, (x.2.1, ()))] : List Rg).length ≤ LIM 16) then X (o ++ [(x.1, (x.2.1, ()))]) else none)) else none)
      else (bif decide (o.length + ([(x.1, (x.2.1, ()))] : List Rg).length ≤ LIM 16) then X (o ++ [(x.1, (x.2.1, ()))]) else none)) = X (stp o x) := by
  have hL : decide (o.length + ([(x.1, (x.2.1, ()))] : List Rg).length ≤ LIM 16) = true := by rw [LIM16]; simp only [decide_eq_true_eq, List.length_singleton]; omega
  have hx : ((x.1, (x.2.1, ())) : Rg) = x := rfl
  rw [hL, hx]
  rcases List.eq_nil_or_concat o with rfl | ⟨p, c, rfl⟩
  · rfl
  · rw [List.concat_eq_append] at *
    have hlen : (p ++ [c]).length = p.length + 1 := by simp
    have ho' : p.length + 1 ≤ 1000000 := by rw [← hlen]; exact ho
    have hw : IntKind.i64.wrap (((p ++ [c]).length : Int) - 1) = (p.length : Int) := by rw [hlen, wi (by omega) (by omega)]; omega
    have h1 : (decide (((p ++ [c]).length : Int) > 0) == true) = true := by simp only [beq_iff_eq, decide_eq_true_eq, hlen]; omega
    have h2 : (decide (0 ≤ (p.length : Int)) && decide ((p.length : Int) < ((p ++ [c]).length : Int))) = true := by simp only [Bool.and_eq_true, decide_eq_true_eq, hlen]; omega
    have hg : (p ++ [c]).getD p.length (0, (0, ())) = c := by simp [List.getD_eq_getElem?_getD]
    have hs : ∀ z : Rg, (p ++ [c]).set p.length z = p ++ [z] := fun z => by simp
    simp only [hw, h1, h2, cond_true, Int.toNat_natCast, hg, hs]
    have h : stp (p ++ [c]) x = if x.1 ≤ c.2.1 then p ++ [(c.1, (mxI c.2.1 x.2.1, ()))] else (p ++ [c]) ++ [x] := by simp [stp]
    rw [h]
    by_cases q : x.1 ≤ c.2.1
    · simp only [q, decide_true, cond_true, if_true, mxI]
    · simp only [q, decide_false, cond_false, if_false]
end Go.Proofs.Ytlcklflbhhnnhaa.PM

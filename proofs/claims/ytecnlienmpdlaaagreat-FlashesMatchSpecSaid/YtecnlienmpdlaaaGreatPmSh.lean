import Derived.Test.YtecnlienmpdlaaaGreatPmC
set_option linter.unusedSimpArgs false
set_option linter.unusedVariables false
namespace Go.Proofs.YtecnlienmpdlaaaGreat.PM
open Go
noncomputable section
inductive Sh where
 | val (p : Prov) (t : Ty) | nils | nilp | und | rw (r : Nat) | rs (r : Nat) | ptr (r off : Nat) | pel (r off : Nat) | pvl (p : Prov) (t : Ty) (off : Nat)
 | fn (f : Nat) (l : List Sh) | agg (l : List Sh) | tup (l : List Sh)
inductive RSh where
 | arr (p : Prov) (t : Ty) | vars (l : List Sh) | gone | mp (it : Nat) (p : Prov) (kt vt : Ty) (bx : Bool)
@[reducible] def Sh.D : Sh → Type
  | .val _ t => t.D
  | .rs _ => Nat × Nat
  | .pel _ _ => Nat
  | .pvl _ t _ => List t.D × Nat
  | .fn _ l => DL l
  | .agg l => DL l
  | .tup l => DL l
  | _ => Unit
where DL : List Sh → Type
 | [] => Unit
 | s :: l => s.D × DL l
@[reducible] def RSh.D : RSh → Type
  | .arr _ t => List t.D
  | .vars l => Sh.D.DL l
  | .gone => Unit
  | .mp _ _ kt vt _ => List (kt.D × vt.D)
@[reducible] def RSh.DL : List RSh → Type
  | [] => Unit
  | s :: l => s.D × RSh.DL l
def eqP : Prov → Prov → Bool
 | [], [] => true
 | (a, b) :: l, (c, d) :: m => a == c && (b == d && eqP l m)
 | _, _ => false
theorem Qke : ∀ {l m : Prov}, eqP l m = true → l = m
 | [], [], _ => rfl
 | (a, b) :: l, (c, d) :: m, h => by
   simp only [eqP, Bool.and_eq_true, beq_iff_eq] at h
   obtain ⟨rfl, rfl, h3⟩ := h
   rw [Qke h3]
 | [], _ :: _, h => by cases h
 | (_, _) :: _, [], h => by cases h
def Sh.build : (s : Sh) → s.D → PV
 | .val p t, x => .val p t x
 | .nils, _ => .nils
 | .nilp, _ => .nilp
 | .und, _ => .und
 | .rw r, _ => .rw r
 | .rs r, x => .rs r x.1 x.2
 | .ptr r off, _ => .ptr r off
 | .pel r off, i => .pel r i off
 | .pvl p t off, x => .pvl p t x.1 x.2 off
 | .fn f l, x => .fn f (buildL l x)
 | .agg l, x => .agg (buildL l x)
 | .tup l, x => .tup (buildL l x)
where buildL : (l : List Sh) → Sh.D.DL l → List PV
 | [], _ => []
 | s :: l, x => s.build x.1 :: buildL l x.2
def RSh.build : (s : RSh) → s.D → RowS
 | .arr p t, x => ⟨0, .arr p t x⟩
 | .vars l, x => ⟨0, .vars (Sh.build.buildL l x)⟩
 | .gone, _ => ⟨0, .gone⟩
 | .mp it p kt vt bx, x => ⟨0, .mp it p kt vt bx x none⟩
def RSh.buildL : (l : List RSh) → RSh.DL l → List RowS
 | [], _ => []
 | s :: l, x => s.build x.1 :: RSh.buildL l x.2
def Sh.parse : (s : Sh) → PV → Option s.D
 | .val p t, v => match v with
   | .val p' t' x => bif eqP p' p then (if h : t' = t then some (h ▸ x) else none) else none
   | _ => none
 | .nils, v => match v with | .nils => some () | _ => none
 | .nilp, v => match v with | .nilp => some () | _ => none
 | .und, v => match v with | .und => some () | _ => none
 | .rw r, v => match v with | .rw r' => bif r' == r then some () else none | _ => none
 | .rs r, v => match v with | .rs r' a b => bif r' == r then some (a, b) else none | _ => none
 | .ptr r off, v => match v with | .ptr r' off' => bif r' == r && off' == off then some () else none | _ => none
 | .pel r off, v => match v with | .pel r' i off' => bif r' == r && off' == off then some i else none | _ => none
 | .pvl p t off, v => match v with
   | .pvl p' t' l i off' => bif eqP p' p && off' == off then (if h : t' = t then some (h ▸ l, i) else none) else none
   | _ => none
 | .fn f l, v => match v with | .fn f' vs => bif f' == f then parseL l vs else none | _ => none
 | .agg l, v => match v with | .agg vs => parseL l vs | _ => none
 | .tup l, v => match v with | .tup vs => parseL l vs | _ => none
where parseL : (l : List Sh) → List PV → Option (Sh.D.DL l)
 | [], vs => match vs with | [] => some () | _ => none
 | s :: l, vs => match vs with
   | v :: vs => match s.parse v with
     | some x => match parseL l vs with
       | some y => some (x, y)
       | none => none
     | none => none
   | [] => none
def RSh.parse : (s : RSh) → RowS → Option s.D
 | .arr p t, v => match v with
   | ⟨0, .arr p' t' x⟩ => bif eqP p' p then (if h : t' = t then some (h ▸ x) else none) else none
   | _ => none
 | .vars l, v => match v with | ⟨0, .vars vs⟩ => Sh.parse.parseL l vs | _ => none
 | .gone, v => match v with | ⟨0, .gone⟩ => some () | _ => none
 | .mp it p kt vt bx, v => match v with
   | ⟨0, .mp it' p' kt' vt' bx' l none⟩ => bif it' == it && (eqP p' p && bx' == bx) then (if h : kt' = kt ∧ vt' = vt then some (h.1 ▸ h.2 ▸ l) else none) else none
   | _ => none
def RSh.parseL : (l : List RSh) → List RowS → Option (RSh.DL l)
 | [], vs => match vs with | [] => some () | _ => none
 | s :: l, vs => match vs with
   | v :: vs => match s.parse v with
     | some x => match RSh.parseL l vs with
       | some y => some (x, y)
       | none => none
     | none => none
   | [] => none
def parseS (a : List Sh) (b : List RSh) (ws : List PV) (rs : List RowS) : Option (Sh.D.DL a × RSh.DL b) := match Sh.parse.parseL a ws with
 | some x => match RSh.parseL b rs with
   | some y => some (x, y)
   | none => none
 | none => none
mutual
theorem Sh.parse_eq : ∀ {s : Sh} {v : PV} {x : s.D}, s.parse v = some x → v = s.build x
 | .val p t, v, x, h => by
   simp only [Sh.parse] at h
   split at h
   ·rename_i p' t' y
    cases hp : eqP p' p with
    | false => rw [hp] at h; cases h
    | true =>
      rw [hp] at h
      simp only [cond_true] at h
      split at h
      ·rename_i e
       subst e
       cases h
       rw [Qke hp]; rfl
      ·cases h
   ·cases h
 | .nils, v, x, h => by simp only [Sh.parse] at h; split at h <;> first | rfl | cases h
 | .nilp, v, x, h => by simp only [Sh.parse] at h; split at h <;> first | rfl | cases h
 | .und, v, x, h => by simp only [Sh.parse] at h; split at h <;> first | rfl | cases h
 | .rw r, v, x, h => by
   simp only [Sh.parse] at h
   split at h
   ·rename_i r'
    by_cases e : r' = r
    ·subst e; rfl
    ·have : (r' == r) = false := by simpa using e
     rw [this] at h; cases h
   ·cases h
 | .rs r, v, x, h => by
   simp only [Sh.parse] at h
   split at h
   ·rename_i r' a b
    by_cases e : r' = r
    ·subst e; simp at h; subst h; rfl
    ·have : (r' == r) = false := by simpa using e
     rw [this] at h; cases h
   ·cases h
 | .ptr r off, v, x, h => by
   simp only [Sh.parse] at h
   split at h
   ·rename_i r' o'
    by_cases e : r' = r
    ·by_cases e2 : o' = off
     ·subst e e2; rfl
     ·have : (o' == off) = false := by simpa using e2
      rw [this, Bool.and_false] at h; cases h
    ·have : (r' == r) = false := by simpa using e
     rw [this] at h; cases h
   ·cases h
 | .pel r off, v, x, h => by
   simp only [Sh.parse] at h
   split at h
   ·rename_i r' i o'
    by_cases e : r' = r
    ·by_cases e2 : o' = off
     ·subst e e2; simp at h; subst h; rfl
     ·have : (o' == off) = false := by simpa using e2
      rw [this, Bool.and_false] at h; cases h
    ·have : (r' == r) = false := by simpa using e
     rw [this] at h; cases h
   ·cases h
 | .pvl p t off, v, x, h => by
   simp only [Sh.parse] at h
   split at h
   ·rename_i p' t' l i o'
    cases hp : eqP p' p with
    | false => rw [hp] at h; cases h
    | true =>
      by_cases e2 : o' = off
      ·subst e2
       rw [hp] at h
       simp only [Bool.true_and, BEq.rfl, cond_true] at h
       split at h
       ·rename_i e
        subst e
        cases h
        rw [Qke hp]; rfl
       ·cases h
      ·have : (o' == off) = false := by simpa using e2
       rw [this, Bool.and_false] at h; cases h
   ·cases h
 | .fn f l, v, x, h => by
   simp only [Sh.parse] at h
   split at h
   ·rename_i f' vs
    by_cases e : f' = f
    ·subst e
     simp only [BEq.rfl, cond_true] at h
     rw [Sh.parseL_eq h]; rfl
    ·have : (f' == f) = false := by simpa using e
     rw [this] at h; cases h
   ·cases h
 | .agg l, v, x, h => by
   simp only [Sh.parse] at h
   split at h
   ·rw [Sh.parseL_eq h]; rfl
   ·cases h
 | .tup l, v, x, h => by
   simp only [Sh.parse] at h
   split at h
   ·rw [Sh.parseL_eq h]; rfl
   ·cases h
theorem Sh.parseL_eq : ∀ {l : List Sh} {vs : List PV} {x : Sh.D.DL l}, Sh.parse.parseL l vs = some x → vs = Sh.build.buildL l x
 | [], vs, x, h => by simp only [Sh.parse.parseL] at h; split at h <;> first | rfl | cases h
 | s :: l, vs, x, h => by
   simp only [Sh.parse.parseL] at h
   split at h
   ·split at h
    ·rename_i h1
     split at h
     ·rename_i h2
      cases h
      rw [Sh.parse_eq h1, Sh.parseL_eq h2]; rfl
     ·cases h
    ·cases h
   ·cases h
end
theorem RSh.parse_eq : ∀ {s : RSh} {v : RowS} {x : s.D}, s.parse v = some x → v = s.build x
 | .arr p t, v, x, h => by
   simp only [RSh.parse] at h
   split at h
   ·rename_i p' t' y
    cases hp : eqP p' p with
    | false => rw [hp] at h; cases h
    | true =>
      rw [hp] at h
      simp only [cond_true] at h
      split at h
      ·rename_i e
       subst e
       cases h
       rw [Qke hp]; rfl
      ·cases h
   ·cases h
 | .vars l, v, x, h => by
   simp only [RSh.parse] at h
   split at h
   ·rw [Sh.parseL_eq h]; rfl
   ·cases h
 | .gone, v, x, h => by simp only [RSh.parse] at h; split at h <;> first | rfl | cases h
 | .mp it p kt vt bx, v, x, h => by
   simp only [RSh.parse] at h
   split at h
   ·rename_i it' p' kt' vt' bx' l
    cases hc : (it' == it && (eqP p' p && bx' == bx)) with
    | false => rw [hc] at h; cases h
    | true =>
      rw [hc] at h
      simp only [cond_true] at h
      simp only [Bool.and_eq_true, beq_iff_eq] at hc
      obtain ⟨rfl, hp, rfl⟩ := hc
      split at h
      ·rename_i e
       obtain ⟨rfl, rfl⟩ := e
       cases h
       rw [Qke hp]; rfl
      ·cases h
   ·cases h
theorem RSh.parseL_eq : ∀ {l : List RSh} {vs : List RowS} {x : RSh.DL l}, RSh.parseL l vs = some x → vs = RSh.buildL l x
 | [], vs, x, h => by simp only [RSh.parseL] at h; split at h <;> first | rfl | cases h
 | s :: l, vs, x, h => by
   simp only [RSh.parseL] at h
   split at h
   ·split at h
    ·rename_i h1
     split at h
     ·rename_i h2
      cases h
      rw [RSh.parse_eq h1, RSh.parseL_eq h2]; rfl
     ·cases h
    ·cases h
   ·cases h
def Q6 {α : Type} (a : List Sh) (b : List RSh) (g : Sh.D.DL a × RSh.DL b → α) (o : α) (ws : List PV) (rs : List RowS) : α := match parseS a b ws rs with
 | some v => g v
 | none => o
theorem Q4 {α : Type} {a : List Sh} {b : List RSh} {G : List PV → List RowS → α} {g : Sh.D.DL a × RSh.DL b → α} (h : ∀ x y, g (x, y) = G (Sh.build.buildL a x) (RSh.buildL b y)) (ws : List PV) (rs : List RowS) :
  Q6 a b g (G ws rs) ws rs = G ws rs := by
 unfold Q6 parseS
 cases h1 : Sh.parse.parseL a ws with
 | none => rfl
 | some x =>
   simp only
   cases h2 : RSh.parseL b rs with
   | none => rfl
   | some y =>
     simp only
     rw [h x y, ← Sh.parseL_eq h1, ← RSh.parseL_eq h2]
end
end Go.Proofs.YtecnlienmpdlaaaGreat.PM

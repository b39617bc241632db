/- slices.Sort at ints: what it comes to. -/
import Derived.Test.YtoepnomdklhhlaaGreatPmM
set_option linter.unusedSimpArgs false
set_option linter.unusedVariables false
namespace Go.Proofs.YtoepnomdklhhlaaGreat.PM
open Go
noncomputable def sortI (l : List Int) : List Int := l.mergeSort fun x y => decide (x ≤ y)
def sortIOk (l : List Int) : Bool := decide (l.length < 4611686018427387904)
def castI {t : Ty} (h : t = .int .i64) (l : List t.D) : List Int := match t, h, l with
  | _, rfl, l => l
noncomputable def sortISpec (args : List PV) (rows : List RowS) : Option (List PV × List RowS) := match args, rows with
  | [.rw 1], [⟨n, .arr [] t l⟩] => if h : t = .int .i64 then (bif sortIOk (castI h l) then some ([], [⟨0, .arr [] (.int .i64) (sortI (castI h l))⟩]) else none) else none
  | _, _ => none
theorem sortI_perm (l : List Int) : (sortI l).Perm l := List.mergeSort_perm l _
theorem sortI_len (l : List Int) : (sortI l).length = l.length := (sortI_perm l).length_eq
theorem sortI_asc (l : List Int) : (sortI l).Pairwise fun x y => x ≤ y := by
  have h := List.pairwise_mergeSort (le := fun x y : Int => decide (x ≤ y)) (by intro a b c h1 h2; simp at *; omega) (by intro a b; simp; omega) l
  exact h.imp fun h => by simpa using h
theorem sortI_call {R : Type} {T : TT} {F : Nat → Option PFn} {k g : Nat} {m : List Mode} (hF : F g = some (.ext m sortISpec)) (l : List Int) (K : List PV → List RowS → Option R) :
    callC T F (k + 1) g [.rw 1] [⟨0, .arr [] (.int .i64) l⟩] K = bif sortIOk l then K [] [⟨0, .arr [] (.int .i64) (sortI l)⟩] else none := by
  simp only [callC, hF, sortISpec, dite_true, castI]
  cases sortIOk l <;> simp
end Go.Proofs.YtoepnomdklhhlaaGreat.PM

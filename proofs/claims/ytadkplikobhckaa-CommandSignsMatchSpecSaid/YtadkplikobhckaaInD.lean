/- slices.Insert at ints: what it comes to. -/
import Derived.Test.YtadkplikobhckaaPmM
set_option linter.unusedSimpArgs false
set_option linter.unusedVariables false
namespace Go.Proofs.Ytadkplikobhckaa.PM
open Go
def insL (i : Int) (l v : List Int) : List Int := l.take i.toNat ++ v ++ l.drop i.toNat
def insOk (i : Int) (l v : List Int) : Bool := decide (0 ≤ i) && (decide (i ≤ (l.length : Int)) && (decide (0 < v.length) && decide (l.length + v.length ≤ 1000000000000)))
def castZ {t : Ty} (h : t = .int .i64) (x : t.D) : Int := match t, h, x with
  | _, rfl, x => x
def castZs {t : Ty} (h : t = .int .i64) (l : List t.D) : List Int := match t, h, l with
  | _, rfl, l => l
noncomputable def insSpec (args : List PV) (rows : List RowS) : Option (List PV × List RowS) := match args, rows with
  | [.rw 1, .val [] ti i, .rw 2], [⟨_, .arr [] t l⟩, ⟨_, .arr [] t2 v⟩] =>
    if h : ti = .int .i64 ∧ t = .int .i64 ∧ t2 = .int .i64 then
      (bif insOk (castZ h.1 i) (castZs h.2.1 l) (castZs h.2.2 v) then some ([.rw 3], [⟨0, .gone⟩, ⟨0, .arr [] (.int .i64) (castZs h.2.2 v)⟩, ⟨0, .arr [] (.int .i64) (insL (castZ h.1 i) (castZs h.2.1 l) (castZs h.2.2 v))⟩]) else none) else none
  | _, _ => none
theorem ins_call {R : Type} {T : TT} {F : Nat → Option PFn} {k g : Nat} {m : List Mode} (hF : F g = some (.ext m insSpec)) (i : Int) (l v : List Int) (K : List PV → List RowS → Option R) :
    callC T F (k + 1) g [.rw 1, .val [] (.int .i64) i, .rw 2] [⟨0, .arr [] (.int .i64) l⟩, ⟨0, .arr [] (.int .i64) v⟩] K = bif insOk i l v then K [.rw 3] [⟨0, .gone⟩, ⟨0, .arr [] (.int .i64) v⟩, ⟨0, .arr [] (.int .i64) (insL i l v)⟩] else none := by
  simp only [callC, hF, insSpec, and_self, dite_true, castZ, castZs]
  cases insOk i l v <;> simp
end Go.Proofs.Ytadkplikobhckaa.PM

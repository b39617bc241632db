/- bytes.Repeat at one byte: what it comes to. -/
import Derived.Test.YtoepnomdklhhlaaGreatPmM
set_option linter.unusedSimpArgs false
set_option linter.unusedVariables false
namespace Go.Proofs.YtoepnomdklhhlaaGreat.PM
open Go
def repOk (l : List Int) (n : Int) : Bool := decide (l.length = 1) && (decide (1 ≤ n) && (decide (n ≤ 1000000000000) && (decide (0 ≤ l.getD 0 0) && decide (l.getD 0 0 < 256))))
def repL (l : List Int) (n : Int) : List Int := List.replicate n.toNat (l.getD 0 0)
def castB {t : Ty} (h : t = .int .u8) (l : List t.D) : List Int := match t, h, l with
 | _, rfl, l => l
def castI64 {t : Ty} (h : t = .int .i64) (x : t.D) : Int := match t, h, x with
 | _, rfl, x => x
noncomputable def repSpec (args : List PV) (rows : List RowS) : Option (List PV × List RowS) := match args, rows with
 | [.val _ (.slice t) l, .val _ ti n], [] =>
   if h : t = .int .u8 ∧ ti = .int .i64 then
    (bif repOk (castB h.1 l) (castI64 h.2 n) then some ([.rw 1], [⟨0, .arr [] (.int .u8) (repL (castB h.1 l) (castI64 h.2 n))⟩]) else none) else none
 | _, _ => none
theorem rep_call {R : Type} {T : TT} {F : Nat → Option PFn} {k g : Nat} {m : List Mode} (hF : F g = some (.ext m repSpec)) (p q : Prov) (l : List Int) (n : Int) (K : List PV → List RowS → Option R) :
  callC T F (k + 1) g [.val p (.slice (.int .u8)) l, .val q (.int .i64) n] [] K = bif repOk l n then K [.rw 1] [⟨0, .arr [] (.int .u8) (repL l n)⟩] else none := by
 simp only [callC, hF, repSpec, and_self, dite_true, castB, castI64]
 cases repOk l n <;> simp
end Go.Proofs.YtoepnomdklhhlaaGreat.PM

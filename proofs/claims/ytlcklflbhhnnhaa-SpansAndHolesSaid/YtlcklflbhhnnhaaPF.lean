/- The tables of the small machine are the program's (printed by a program of this work). -/
import Derived.Test.YtlcklflbhhnnhaaPW0
import Derived.Test.YtlcklflbhhnnhaaChecked
import Derived.Test.YtlcklflbhhnnhaaPmSrt
set_option linter.unusedVariables false
set_option maxRecDepth 100000
namespace Go.Proofs.Ytlcklflbhhnnhaa.PM
open Go
theorem ttok : TTok Try.prog T := by
  unfold T
  refine TTok.cons ⟨by kernel_rfl, by kernel_rfl, fun ty h => by cases h; exact ⟨by kernel_rfl, by kernel_rfl⟩, fun ty h hf => by cases h; kernel_rfl⟩ ?_
  refine TTok.cons ⟨by kernel_rfl, by kernel_rfl, fun ty h => by cases h; exact ⟨by kernel_rfl, by kernel_rfl⟩, fun ty h hf => by cases h; kernel_rfl⟩ ?_
  refine TTok.cons ⟨by kernel_rfl, by kernel_rfl, fun ty h => by cases h; exact ⟨by kernel_rfl, by kernel_rfl⟩, fun ty h hf => by cases h; exact Bool.noConfusion (hf.symm.trans (show Ty.flat _ = false from by kernel_rfl))⟩ ?_
  refine TTok.cons ⟨by kernel_rfl, by kernel_rfl, fun ty h => by cases h; exact ⟨by kernel_rfl, by kernel_rfl⟩, fun ty h hf => by cases h; exact Bool.noConfusion (hf.symm.trans (show Ty.flat _ = false from by kernel_rfl))⟩ ?_
  refine TTok.cons ⟨by kernel_rfl, by kernel_rfl, fun ty h => by cases h; exact ⟨by kernel_rfl, by kernel_rfl⟩, fun ty h hf => by cases h; kernel_rfl⟩ ?_
  refine TTok.cons ⟨by kernel_rfl, by kernel_rfl, fun ty h => by cases h; exact ⟨by kernel_rfl, by kernel_rfl⟩, fun ty h hf => by cases h; exact Bool.noConfusion (hf.symm.trans (show Ty.flat _ = false from by kernel_rfl))⟩ ?_
  exact TTok.nil _
theorem cl115 : ExtOk Try.prog 115 (sortSpec 116) := sort_good
theorem find_cons {β : Type} {a x : Nat} {b : β} {l : List (Nat × β)} {c : β} (h : findN ((a, b) :: l) x = some c) : (x = a ∧ c = b) ∨ findN l x = some c := by
  simp only [findN] at h
  by_cases e : a = x
  · subst e; simp at h; exact .inl ⟨rfl, h.symm⟩
  · have : (a == x) = false := by simpa using e
    rw [this] at h; exact .inr h
theorem fok : Fok Try.prog F := by
  refine ⟨by kernel_rfl, fun g fn an h => ?_, fun g m spec h => ?_⟩
  · unfold F at h
    rcases find_cons h with ⟨rfl, e⟩ | h
    · cases e; exact ⟨by kernel_rfl, by simpa using (show (Func.name _ == "runtime.NumGoroutine") = false from by kernel_rfl)⟩
    rcases find_cons h with ⟨rfl, e⟩ | h
    · cases e; exact ⟨by kernel_rfl, by simpa using (show (Func.name _ == "runtime.NumGoroutine") = false from by kernel_rfl)⟩
    rcases find_cons h with ⟨rfl, e⟩ | h
    · cases e; exact ⟨by kernel_rfl, by simpa using (show (Func.name _ == "runtime.NumGoroutine") = false from by kernel_rfl)⟩
    rcases find_cons h with ⟨rfl, e⟩ | h
    · cases e; exact ⟨by kernel_rfl, by simpa using (show (Func.name _ == "runtime.NumGoroutine") = false from by kernel_rfl)⟩
    rcases find_cons h with ⟨rfl, e⟩ | h
    · cases e
    rcases find_cons h with ⟨rfl, e⟩ | h
    · cases e; exact ⟨by kernel_rfl, by simpa using (show (Func.name _ == "runtime.NumGoroutine") = false from by kernel_rfl)⟩
    rcases find_cons h with ⟨rfl, e⟩ | h
    · cases e; exact ⟨by kernel_rfl, by simpa using (show (Func.name _ == "runtime.NumGoroutine") = false from by kernel_rfl)⟩
    rcases find_cons h with ⟨rfl, e⟩ | h
    · cases e; exact ⟨by kernel_rfl, by simpa using (show (Func.name _ == "runtime.NumGoroutine") = false from by kernel_rfl)⟩
    rcases find_cons h with ⟨rfl, e⟩ | h
    · cases e; exact ⟨by kernel_rfl, by simpa using (show (Func.name _ == "runtime.NumGoroutine") = false from by kernel_rfl)⟩
    rcases find_cons h with ⟨rfl, e⟩ | h
    · cases e; exact ⟨by kernel_rfl, by simpa using (show (Func.name _ == "runtime.NumGoroutine") = false from by kernel_rfl)⟩
    rcases find_cons h with ⟨rfl, e⟩ | h
    · cases e; exact ⟨by kernel_rfl, by simpa using (show (Func.name _ == "runtime.NumGoroutine") = false from by kernel_rfl)⟩
    rcases find_cons h with ⟨rfl, e⟩ | h
    · cases e; exact ⟨by kernel_rfl, by simpa using (show (Func.name _ == "runtime.NumGoroutine") = false from by kernel_rfl)⟩
    rcases find_cons h with ⟨rfl, e⟩ | h
    · cases e; exact ⟨by kernel_rfl, by simpa using (show (Func.name _ == "runtime.NumGoroutine") = false from by kernel_rfl)⟩
    rcases find_cons h with ⟨rfl, e⟩ | h
    · cases e; exact ⟨by kernel_rfl, by simpa using (show (Func.name _ == "runtime.NumGoroutine") = false from by kernel_rfl)⟩
    rcases find_cons h with ⟨rfl, e⟩ | h
    · cases e; exact ⟨by kernel_rfl, by simpa using (show (Func.name _ == "runtime.NumGoroutine") = false from by kernel_rfl)⟩
    rcases find_cons h with ⟨rfl, e⟩ | h
    · cases e; exact ⟨by kernel_rfl, by simpa using (show (Func.name _ == "runtime.NumGoroutine") = false from by kernel_rfl)⟩
    rcases find_cons h with ⟨rfl, e⟩ | h
    · cases e; exact ⟨by kernel_rfl, by simpa using (show (Func.name _ == "runtime.NumGoroutine") = false from by kernel_rfl)⟩
    rcases find_cons h with ⟨rfl, e⟩ | h
    · cases e; exact ⟨by kernel_rfl, by simpa using (show (Func.name _ == "runtime.NumGoroutine") = false from by kernel_rfl)⟩
    rcases find_cons h with ⟨rfl, e⟩ | h
    · cases e; exact ⟨by kernel_rfl, by simpa using (show (Func.name _ == "runtime.NumGoroutine") = false from by kernel_rfl)⟩
    rcases find_cons h with ⟨rfl, e⟩ | h
    · cases e; exact ⟨by kernel_rfl, by simpa using (show (Func.name _ == "runtime.NumGoroutine") = false from by kernel_rfl)⟩
    rcases find_cons h with ⟨rfl, e⟩ | h
    · cases e; exact ⟨by kernel_rfl, by simpa using (show (Func.name _ == "runtime.NumGoroutine") = false from by kernel_rfl)⟩
    rcases find_cons h with ⟨rfl, e⟩ | h
    · cases e; exact ⟨by kernel_rfl, by simpa using (show (Func.name _ == "runtime.NumGoroutine") = false from by kernel_rfl)⟩
    rcases find_cons h with ⟨rfl, e⟩ | h
    · cases e; exact ⟨by kernel_rfl, by simpa using (show (Func.name _ == "runtime.NumGoroutine") = false from by kernel_rfl)⟩
    cases h
  · unfold F at h
    rcases find_cons h with ⟨rfl, e⟩ | h
    · cases e
    rcases find_cons h with ⟨rfl, e⟩ | h
    · cases e
    rcases find_cons h with ⟨rfl, e⟩ | h
    · cases e
    rcases find_cons h with ⟨rfl, e⟩ | h
    · cases e
    rcases find_cons h with ⟨rfl, e⟩ | h
    · cases e; exact cl115
    rcases find_cons h with ⟨rfl, e⟩ | h
    · cases e
    rcases find_cons h with ⟨rfl, e⟩ | h
    · cases e
    rcases find_cons h with ⟨rfl, e⟩ | h
    · cases e
    rcases find_cons h with ⟨rfl, e⟩ | h
    · cases e
    rcases find_cons h with ⟨rfl, e⟩ | h
    · cases e
    rcases find_cons h with ⟨rfl, e⟩ | h
    · cases e
    rcases find_cons h with ⟨rfl, e⟩ | h
    · cases e
    rcases find_cons h with ⟨rfl, e⟩ | h
    · cases e
    rcases find_cons h with ⟨rfl, e⟩ | h
    · cases e
    rcases find_cons h with ⟨rfl, e⟩ | h
    · cases e
    rcases find_cons h with ⟨rfl, e⟩ | h
    · cases e
    rcases find_cons h with ⟨rfl, e⟩ | h
    · cases e
    rcases find_cons h with ⟨rfl, e⟩ | h
    · cases e
    rcases find_cons h with ⟨rfl, e⟩ | h
    · cases e
    rcases find_cons h with ⟨rfl, e⟩ | h
    · cases e
    rcases find_cons h with ⟨rfl, e⟩ | h
    · cases e
    rcases find_cons h with ⟨rfl, e⟩ | h
    · cases e
    rcases find_cons h with ⟨rfl, e⟩ | h
    · cases e
    cases h
end Go.Proofs.Ytlcklflbhhnnhaa.PM

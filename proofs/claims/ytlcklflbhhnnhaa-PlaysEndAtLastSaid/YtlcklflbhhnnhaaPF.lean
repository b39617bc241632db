/- The tables of the small machine are the program's (printed by a program of this work). -/
import Derived.Test.YtlcklflbhhnnhaaPW1
import Derived.Test.YtlcklflbhhnnhaaChecked
import Derived.Test.YtlcklflbhhnnhaaPmSrt
import Derived.Test.YtlcklflbhhnnhaaPmRp
set_option linter.unusedVariables false
set_option maxRecDepth 100000
namespace Go.Proofs.Ytlcklflbhhnnhaa.PM
open Go
theorem ttok : TTok Try.prog T := by
  unfold T
  refine TTok.cons ⟨by kernel_rfl, by kernel_rfl, fun ty h => by cases h; exact ⟨by kernel_rfl, by kernel_rfl⟩, fun ty h hf => by cases h; kernel_rfl⟩ ?_
  refine TTok.cons ⟨by kernel_rfl, by kernel_rfl, fun ty h => by cases h; exact ⟨by kernel_rfl, by kernel_rfl⟩, fun ty h hf => by cases h; kernel_rfl⟩ ?_
  refine TTok.cons ⟨by kernel_rfl, by kernel_rfl, fun ty h => by cases h; exact ⟨by kernel_rfl, by kernel_rfl⟩, fun ty h hf => by cases h; kernel_rfl⟩ ?_
  refine TTok.cons ⟨by kernel_rfl, by kernel_rfl, fun ty h => by cases h; exact ⟨by kernel_rfl, by kernel_rfl⟩, fun ty h hf => by cases h; kernel_rfl⟩ ?_
  refine TTok.cons ⟨by kernel_rfl, by kernel_rfl, fun ty h => by cases h; exact ⟨by kernel_rfl, by kernel_rfl⟩, fun ty h hf => by cases h; exact Bool.noConfusion (hf.symm.trans (show Ty.flat _ = false from by kernel_rfl))⟩ ?_
  refine TTok.cons ⟨by kernel_rfl, by kernel_rfl, fun ty h => by cases h; exact ⟨by kernel_rfl, by kernel_rfl⟩, fun ty h hf => by cases h; exact Bool.noConfusion (hf.symm.trans (show Ty.flat _ = false from by kernel_rfl))⟩ ?_
  refine TTok.cons ⟨by kernel_rfl, by kernel_rfl, fun ty h => by cases h; exact ⟨by kernel_rfl, by kernel_rfl⟩, fun ty h hf => by cases h; exact Bool.noConfusion (hf.symm.trans (show Ty.flat _ = false from by kernel_rfl))⟩ ?_
  refine TTok.cons ⟨by kernel_rfl, by kernel_rfl, fun ty h => by cases h; exact ⟨by kernel_rfl, by kernel_rfl⟩, fun ty h hf => by cases h; kernel_rfl⟩ ?_
  refine TTok.cons ⟨by kernel_rfl, by kernel_rfl, fun ty h => by cases h; exact ⟨by kernel_rfl, by kernel_rfl⟩, fun ty h hf => by cases h; exact Bool.noConfusion (hf.symm.trans (show Ty.flat _ = false from by kernel_rfl))⟩ ?_
  refine TTok.cons ⟨by kernel_rfl, by kernel_rfl, fun ty h => by cases h; exact ⟨by kernel_rfl, by kernel_rfl⟩, fun ty h hf => by cases h; exact Bool.noConfusion (hf.symm.trans (show Ty.flat _ = false from by kernel_rfl))⟩ ?_
  refine TTok.cons ⟨by kernel_rfl, by kernel_rfl, fun ty h => by cases h; exact ⟨by kernel_rfl, by kernel_rfl⟩, fun ty h hf => by cases h; exact Bool.noConfusion (hf.symm.trans (show Ty.flat _ = false from by kernel_rfl))⟩ ?_
  refine TTok.cons ⟨by kernel_rfl, by kernel_rfl, fun ty h => by cases h; exact ⟨by kernel_rfl, by kernel_rfl⟩, fun ty h hf => by cases h; kernel_rfl⟩ ?_
  refine TTok.cons ⟨by kernel_rfl, by kernel_rfl, fun ty h => by cases h; exact ⟨by kernel_rfl, by kernel_rfl⟩, fun ty h hf => by cases h; exact Bool.noConfusion (hf.symm.trans (show Ty.flat _ = false from by kernel_rfl))⟩ ?_
  refine TTok.cons ⟨by kernel_rfl, by kernel_rfl, fun ty h => by cases h; exact ⟨by kernel_rfl, by kernel_rfl⟩, fun ty h hf => by cases h; exact Bool.noConfusion (hf.symm.trans (show Ty.flat _ = false from by kernel_rfl))⟩ ?_
  refine TTok.cons ⟨by kernel_rfl, by kernel_rfl, fun ty h => by cases h; exact ⟨by kernel_rfl, by kernel_rfl⟩, fun ty h hf => by cases h; exact Bool.noConfusion (hf.symm.trans (show Ty.flat _ = false from by kernel_rfl))⟩ ?_
  refine TTok.cons ⟨by kernel_rfl, by kernel_rfl, fun ty h => by cases h; exact ⟨by kernel_rfl, by kernel_rfl⟩, fun ty h hf => by cases h; exact Bool.noConfusion (hf.symm.trans (show Ty.flat _ = false from by kernel_rfl))⟩ ?_
  refine TTok.cons ⟨by kernel_rfl, by kernel_rfl, fun ty h => by cases h; exact ⟨by kernel_rfl, by kernel_rfl⟩, fun ty h hf => by cases h; exact Bool.noConfusion (hf.symm.trans (show Ty.flat _ = false from by kernel_rfl))⟩ ?_
  refine TTok.cons ⟨by kernel_rfl, by kernel_rfl, fun ty h => by cases h; exact ⟨by kernel_rfl, by kernel_rfl⟩, fun ty h hf => by cases h; exact Bool.noConfusion (hf.symm.trans (show Ty.flat _ = false from by kernel_rfl))⟩ ?_
  refine TTok.cons ⟨by kernel_rfl, by kernel_rfl, fun ty h => by cases h; exact ⟨by kernel_rfl, by kernel_rfl⟩, fun ty h hf => by cases h; exact Bool.noConfusion (hf.symm.trans (show Ty.flat _ = false from by kernel_rfl))⟩ ?_
  exact TTok.nil _
theorem cl77 : ExtOk Try.prog 77 (cloneSpec (.int .u8) 1) := by
  refine clone_good (an := ⟨[], [.own (.int .u8)], [], [], [], [], [], [], []⟩) (fn := Try.f77) (i0 := 0) (i1 := 1) (ops0 := opsOf (sel (bodyOf Try.f77) [0])) (o1 := operAt (sel (bodyOf Try.f77) [1, 0, 0]) 0) (o2 := operAt (sel (bodyOf Try.f77) [1, 0, 0]) 1) (c2 := sel (bodyOf Try.f77) [1, 0, 1]) (t2 := sel (bodyOf Try.f77) [1, 1]) (yt := 22) (by kernel_rfl) ttok (by kernel_rfl) (by kernel_rfl) (by kernel_rfl) (by kernel_rfl) (by kernel_rfl) (by kernel_rfl) (by kernel_rfl) (by kernel_rfl) (by kernel_rfl) (by kernel_rfl) (ts := 22) (e := 5) (by kernel_rfl) (fun l => ⟨upd (argEnv 0 [.val [(0, 0)] (.slice (.int .u8)) l] (fun _ => none)) 2 (some .nils), rowsOf []⟩) (fun l => by kernel_rfl) (fun l => rfl) (fun l K X => by kernel_rfl) (fun b l K h1 h2 => ?_)
  cases b with
  | true => rw [h1 rfl]; kernel_rfl
  | false => exact (show _ = bif decide (0 + l.length ≤ LIM 1) then _ else none from by kernel_rfl).trans (by rw [Nat.zero_add, h2]; rfl)
theorem cl109 : ExtOk Try.prog 109 (cloneSpec (.prod (.int .i64) (.prod (.int .i64) .unit)) 16) := by
  refine clone_good (an := ⟨[], [.own (.prod (.int .i64) (.prod (.int .i64) .unit))], [], [], [], [], [], [], []⟩) (fn := Try.f109) (i0 := 0) (i1 := 1) (ops0 := opsOf (sel (bodyOf Try.f109) [0])) (o1 := operAt (sel (bodyOf Try.f109) [1, 0, 0]) 0) (o2 := operAt (sel (bodyOf Try.f109) [1, 0, 0]) 1) (c2 := sel (bodyOf Try.f109) [1, 0, 1]) (t2 := sel (bodyOf Try.f109) [1, 1]) (yt := 23) (by kernel_rfl) ttok (by kernel_rfl) (by kernel_rfl) (by kernel_rfl) (by kernel_rfl) (by kernel_rfl) (by kernel_rfl) (by kernel_rfl) (by kernel_rfl) (by kernel_rfl) (by kernel_rfl) (ts := 23) (e := 59) (by kernel_rfl) (fun l => ⟨upd (argEnv 0 [.val [(0, 0)] (.slice (.prod (.int .i64) (.prod (.int .i64) .unit))) l] (fun _ => none)) 2 (some .nils), rowsOf []⟩) (fun l => by kernel_rfl) (fun l => rfl) (fun l K X => by kernel_rfl) (fun b l K h1 h2 => ?_)
  cases b with
  | true => rw [h1 rfl]; kernel_rfl
  | false => exact (show _ = bif decide (0 + l.length ≤ LIM 16) then _ else none from by kernel_rfl).trans (by rw [Nat.zero_add, h2]; rfl)
theorem cl135 : ExtOk Try.prog 135 repSpec := repeat_good
theorem cl115 : ExtOk Try.prog 115 (sortSpec 116) := sort_good
theorem find_cons {β : Type} {a x : Nat} {b : β} {l : List (Nat × β)} {c : β} (h : findN ((a, b) :: l) x = some c) : (x = a ∧ c = b) ∨ findN l x = some c := by
  simp only [findN] at h
  by_cases e : a = x
  · subst e; simp at h; exact .inl ⟨rfl, h.symm⟩
  · have : (a == x) = false := by simpa using e
    rw [this] at h; exact .inr h
theorem fok : Fok Try.prog F := by
  refine ⟨by kernel_rfl, fun g fn an h => ?_, fun g m spec h => ?_⟩
  · unfold F at h
    rcases find_cons h with ⟨rfl, e⟩ | h
    · cases e; exact ⟨by kernel_rfl, by simpa using (show (Func.name _ == "runtime.NumGoroutine") = false from by kernel_rfl)⟩
    rcases find_cons h with ⟨rfl, e⟩ | h
    · cases e; exact ⟨by kernel_rfl, by simpa using (show (Func.name _ == "runtime.NumGoroutine") = false from by kernel_rfl)⟩
    rcases find_cons h with ⟨rfl, e⟩ | h
    · cases e; exact ⟨by kernel_rfl, by simpa using (show (Func.name _ == "runtime.NumGoroutine") = false from by kernel_rfl)⟩
    rcases find_cons h with ⟨rfl, e⟩ | h
    · cases e; exact ⟨by kernel_rfl, by simpa using (show (Func.name _ == "runtime.NumGoroutine") = false from by kernel_rfl)⟩
    rcases find_cons h with ⟨rfl, e⟩ | h
    · cases e; exact ⟨by kernel_rfl, by simpa using (show (Func.name _ == "runtime.NumGoroutine") = false from by kernel_rfl)⟩
    rcases find_cons h with ⟨rfl, e⟩ | h
    · cases e; exact ⟨by kernel_rfl, by simpa using (show (Func.name _ == "runtime.NumGoroutine") = false from by kernel_rfl)⟩
    rcases find_cons h with ⟨rfl, e⟩ | h
    · cases e; exact ⟨by kernel_rfl, by simpa using (show (Func.name _ == "runtime.NumGoroutine") = false from by kernel_rfl)⟩
    rcases find_cons h with ⟨rfl, e⟩ | h
    · cases e
    rcases find_cons h with ⟨rfl, e⟩ | h
    · cases e; exact ⟨by kernel_rfl, by simpa using (show (Func.name _ == "runtime.NumGoroutine") = false from by kernel_rfl)⟩
    rcases find_cons h with ⟨rfl, e⟩ | h
    · cases e; exact ⟨by kernel_rfl, by simpa using (show (Func.name _ == "runtime.NumGoroutine") = false from by kernel_rfl)⟩
    rcases find_cons h with ⟨rfl, e⟩ | h
    · cases e; exact ⟨by kernel_rfl, by simpa using (show (Func.name _ == "runtime.NumGoroutine") = false from by kernel_rfl)⟩
    rcases find_cons h with ⟨rfl, e⟩ | h
    · cases e; exact ⟨by kernel_rfl, by simpa using (show (Func.name _ == "runtime.NumGoroutine") = false from by kernel_rfl)⟩
    rcases find_cons h with ⟨rfl, e⟩ | h
    · cases e
    rcases find_cons h with ⟨rfl, e⟩ | h
    · cases e; exact ⟨by kernel_rfl, by simpa using (show (Func.name _ == "runtime.NumGoroutine") = false from by kernel_rfl)⟩
    rcases find_cons h with ⟨rfl, e⟩ | h
    · cases e; exact ⟨by kernel_rfl, by simpa using (show (Func.name _ == "runtime.NumGoroutine") = false from by kernel_rfl)⟩
    rcases find_cons h with ⟨rfl, e⟩ | h
    · cases e; exact ⟨by kernel_rfl, by simpa using (show (Func.name _ == "runtime.NumGoroutine") = false from by kernel_rfl)⟩
    rcases find_cons h with ⟨rfl, e⟩ | h
    · cases e
    rcases find_cons h with ⟨rfl, e⟩ | h
    · cases e; exact ⟨by kernel_rfl, by simpa using (show (Func.name _ == "runtime.NumGoroutine") = false from by kernel_rfl)⟩
    rcases find_cons h with ⟨rfl, e⟩ | h
    · cases e; exact ⟨by kernel_rfl, by simpa using (show (Func.name _ == "runtime.NumGoroutine") = false from by kernel_rfl)⟩
    rcases find_cons h with ⟨rfl, e⟩ | h
    · cases e; exact ⟨by kernel_rfl, by simpa using (show (Func.name _ == "runtime.NumGoroutine") = false from by kernel_rfl)⟩
    rcases find_cons h with ⟨rfl, e⟩ | h
    · cases e; exact ⟨by kernel_rfl, by simpa using (show (Func.name _ == "runtime.NumGoroutine") = false from by kernel_rfl)⟩
    rcases find_cons h with ⟨rfl, e⟩ | h
    · cases e; exact ⟨by kernel_rfl, by simpa using (show (Func.name _ == "runtime.NumGoroutine") = false from by kernel_rfl)⟩
    rcases find_cons h with ⟨rfl, e⟩ | h
    · cases e; exact ⟨by kernel_rfl, by simpa using (show (Func.name _ == "runtime.NumGoroutine") = false from by kernel_rfl)⟩
    rcases find_cons h with ⟨rfl, e⟩ | h
    · cases e; exact ⟨by kernel_rfl, by simpa using (show (Func.name _ == "runtime.NumGoroutine") = false from by kernel_rfl)⟩
    rcases find_cons h with ⟨rfl, e⟩ | h
    · cases e; exact ⟨by kernel_rfl, by simpa using (show (Func.name _ == "runtime.NumGoroutine") = false from by kernel_rfl)⟩
    rcases find_cons h with ⟨rfl, e⟩ | h
    · cases e; exact ⟨by kernel_rfl, by simpa using (show (Func.name _ == "runtime.NumGoroutine") = false from by kernel_rfl)⟩
    rcases find_cons h with ⟨rfl, e⟩ | h
    · cases e; exact ⟨by kernel_rfl, by simpa using (show (Func.name _ == "runtime.NumGoroutine") = false from by kernel_rfl)⟩
    rcases find_cons h with ⟨rfl, e⟩ | h
    · cases e; exact ⟨by kernel_rfl, by simpa using (show (Func.name _ == "runtime.NumGoroutine") = false from by kernel_rfl)⟩
    rcases find_cons h with ⟨rfl, e⟩ | h
    · cases e; exact ⟨by kernel_rfl, by simpa using (show (Func.name _ == "runtime.NumGoroutine") = false from by kernel_rfl)⟩
    rcases find_cons h with ⟨rfl, e⟩ | h
    · cases e
    rcases find_cons h with ⟨rfl, e⟩ | h
    · cases e; exact ⟨by kernel_rfl, by simpa using (show (Func.name _ == "runtime.NumGoroutine") = false from by kernel_rfl)⟩
    rcases find_cons h with ⟨rfl, e⟩ | h
    · cases e; exact ⟨by kernel_rfl, by simpa using (show (Func.name _ == "runtime.NumGoroutine") = false from by kernel_rfl)⟩
    rcases find_cons h with ⟨rfl, e⟩ | h
    · cases e; exact ⟨by kernel_rfl, by simpa using (show (Func.name _ == "runtime.NumGoroutine") = false from by kernel_rfl)⟩
    rcases find_cons h with ⟨rfl, e⟩ | h
    · cases e; exact ⟨by kernel_rfl, by simpa using (show (Func.name _ == "runtime.NumGoroutine") = false from by kernel_rfl)⟩
    rcases find_cons h with ⟨rfl, e⟩ | h
    · cases e; exact ⟨by kernel_rfl, by simpa using (show (Func.name _ == "runtime.NumGoroutine") = false from by kernel_rfl)⟩
    rcases find_cons h with ⟨rfl, e⟩ | h
    · cases e; exact ⟨by kernel_rfl, by simpa using (show (Func.name _ == "runtime.NumGoroutine") = false from by kernel_rfl)⟩
    rcases find_cons h with ⟨rfl, e⟩ | h
    · cases e; exact ⟨by kernel_rfl, by simpa using (show (Func.name _ == "runtime.NumGoroutine") = false from by kernel_rfl)⟩
    cases h
  · unfold F at h
    rcases find_cons h with ⟨rfl, e⟩ | h
    · cases e
    rcases find_cons h with ⟨rfl, e⟩ | h
    · cases e
    rcases find_cons h with ⟨rfl, e⟩ | h
    · cases e
    rcases find_cons h with ⟨rfl, e⟩ | h
    · cases e
    rcases find_cons h with ⟨rfl, e⟩ | h
    · cases e
    rcases find_cons h with ⟨rfl, e⟩ | h
    · cases e
    rcases find_cons h with ⟨rfl, e⟩ | h
    · cases e
    rcases find_cons h with ⟨rfl, e⟩ | h
    · cases e; exact cl77
    rcases find_cons h with ⟨rfl, e⟩ | h
    · cases e
    rcases find_cons h with ⟨rfl, e⟩ | h
    · cases e
    rcases find_cons h with ⟨rfl, e⟩ | h
    · cases e
    rcases find_cons h with ⟨rfl, e⟩ | h
    · cases e
    rcases find_cons h with ⟨rfl, e⟩ | h
    · cases e; exact cl135
    rcases find_cons h with ⟨rfl, e⟩ | h
    · cases e
    rcases find_cons h with ⟨rfl, e⟩ | h
    · cases e
    rcases find_cons h with ⟨rfl, e⟩ | h
    · cases e
    rcases find_cons h with ⟨rfl, e⟩ | h
    · cases e; exact cl115
    rcases find_cons h with ⟨rfl, e⟩ | h
    · cases e
    rcases find_cons h with ⟨rfl, e⟩ | h
    · cases e
    rcases find_cons h with ⟨rfl, e⟩ | h
    · cases e
    rcases find_cons h with ⟨rfl, e⟩ | h
    · cases e
    rcases find_cons h with ⟨rfl, e⟩ | h
    · cases e
    rcases find_cons h with ⟨rfl, e⟩ | h
    · cases e
    rcases find_cons h with ⟨rfl, e⟩ | h
    · cases e
    rcases find_cons h with ⟨rfl, e⟩ | h
    · cases e
    rcases find_cons h with ⟨rfl, e⟩ | h
    · cases e
    rcases find_cons h with ⟨rfl, e⟩ | h
    · cases e
    rcases find_cons h with ⟨rfl, e⟩ | h
    · cases e
    rcases find_cons h with ⟨rfl, e⟩ | h
    · cases e
    rcases find_cons h with ⟨rfl, e⟩ | h
    · cases e; exact cl109
    rcases find_cons h with ⟨rfl, e⟩ | h
    · cases e
    rcases find_cons h with ⟨rfl, e⟩ | h
    · cases e
    rcases find_cons h with ⟨rfl, e⟩ | h
    · cases e
    rcases find_cons h with ⟨rfl, e⟩ | h
    · cases e
    rcases find_cons h with ⟨rfl, e⟩ | h
    · cases e
    rcases find_cons h with ⟨rfl, e⟩ | h
    · cases e
    rcases find_cons h with ⟨rfl, e⟩ | h
    · cases e
    cases h
end Go.Proofs.Ytlcklflbhhnnhaa.PM

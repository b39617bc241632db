/- The tables of the small machine are the program's (printed by a program of this work). -/
import Derived.Test.YtecnlienmpdlaaaPW0
import Derived.Test.YtecnlienmpdlaaaChecked
import Derived.Test.YtecnlienmpdlaaaPmSkU
import Derived.Test.YtecnlienmpdlaaaPmSs
set_option linter.unusedVariables false
set_option maxRecDepth 100000
namespace Go.Proofs.Ytecnlienmpdlaaa.PM
open Go
theorem ttok : TTok Try.prog T := by
  unfold T
  refine TTok.cons ⟨by kernel_rfl, by kernel_rfl, fun ty h => (by cases h; exact ⟨by kernel_rfl, by kernel_rfl⟩), fun ty h hf => (by cases h; kernel_rfl), fun ty h hf => (by cases h; kernel_rfl)⟩ ?_
  refine TTok.cons ⟨by kernel_rfl, by kernel_rfl, fun ty h => (by cases h; exact ⟨by kernel_rfl, by kernel_rfl⟩), fun ty h hf => (by cases h; kernel_rfl), fun ty h hf => (by cases h; kernel_rfl)⟩ ?_
  refine TTok.cons ⟨by kernel_rfl, by kernel_rfl, fun ty h => (by cases h; exact ⟨by kernel_rfl, by kernel_rfl⟩), fun ty h hf => (by cases h; kernel_rfl), fun ty h hf => (by cases h; kernel_rfl)⟩ ?_
  refine TTok.cons ⟨by kernel_rfl, by kernel_rfl, fun ty h => (by cases h; exact ⟨by kernel_rfl, by kernel_rfl⟩), fun ty h hf => (by cases h; kernel_rfl), fun ty h hf => (by cases h; kernel_rfl)⟩ ?_
  refine TTok.cons ⟨by kernel_rfl, by kernel_rfl, fun ty h => (by cases h; exact ⟨by kernel_rfl, by kernel_rfl⟩), fun ty h hf => (by cases h; exact Bool.noConfusion (hf.symm.trans (show Ty.flat _ = false from by kernel_rfl))), fun ty h hf => (by cases h; kernel_rfl)⟩ ?_
  refine TTok.cons ⟨by kernel_rfl, by kernel_rfl, fun ty h => (by cases h; exact ⟨by kernel_rfl, by kernel_rfl⟩), fun ty h hf => (by cases h; exact Bool.noConfusion (hf.symm.trans (show Ty.flat _ = false from by kernel_rfl))), fun ty h hf => (by cases h; kernel_rfl)⟩ ?_
  refine TTok.cons ⟨by kernel_rfl, by kernel_rfl, fun ty h => (by cases h; exact ⟨by kernel_rfl, by kernel_rfl⟩), fun ty h hf => (by cases h; exact Bool.noConfusion (hf.symm.trans (show Ty.flat _ = false from by kernel_rfl))), fun ty h hf => (by cases h; exact Bool.noConfusion (hf.symm.trans (show oneTy _ = false from by kernel_rfl)))⟩ ?_
  refine TTok.cons ⟨by kernel_rfl, by kernel_rfl, fun ty h => (by cases h; exact ⟨by kernel_rfl, by kernel_rfl⟩), fun ty h hf => (by cases h; exact Bool.noConfusion (hf.symm.trans (show Ty.flat _ = false from by kernel_rfl))), fun ty h hf => (by cases h; exact Bool.noConfusion (hf.symm.trans (show oneTy _ = false from by kernel_rfl)))⟩ ?_
  refine TTok.cons ⟨by kernel_rfl, by kernel_rfl, fun ty h => (by cases h; exact ⟨by kernel_rfl, by kernel_rfl⟩), fun ty h hf => (by cases h; kernel_rfl), fun ty h hf => (by cases h; kernel_rfl)⟩ ?_
  refine TTok.cons ⟨by kernel_rfl, by kernel_rfl, fun ty h => (by cases h; exact ⟨by kernel_rfl, by kernel_rfl⟩), fun ty h hf => (by cases h; exact Bool.noConfusion (hf.symm.trans (show Ty.flat _ = false from by kernel_rfl))), fun ty h hf => (by cases h; kernel_rfl)⟩ ?_
  refine TTok.cons ⟨by kernel_rfl, by kernel_rfl, fun ty h => (by cases h; exact ⟨by kernel_rfl, by kernel_rfl⟩), fun ty h hf => (by cases h; exact Bool.noConfusion (hf.symm.trans (show Ty.flat _ = false from by kernel_rfl))), fun ty h hf => (by cases h; kernel_rfl)⟩ ?_
  refine TTok.cons ⟨by kernel_rfl, by kernel_rfl, fun ty h => (by cases h; exact ⟨by kernel_rfl, by kernel_rfl⟩), fun ty h hf => (by cases h; kernel_rfl), fun ty h hf => (by cases h; exact Bool.noConfusion (hf.symm.trans (show oneTy _ = false from by kernel_rfl)))⟩ ?_
  refine TTok.cons ⟨by kernel_rfl, by kernel_rfl, fun ty h => (by cases h; exact ⟨by kernel_rfl, by kernel_rfl⟩), fun ty h hf => (by cases h; exact Bool.noConfusion (hf.symm.trans (show Ty.flat _ = false from by kernel_rfl))), fun ty h hf => (by cases h; kernel_rfl)⟩ ?_
  refine TTok.cons ⟨by kernel_rfl, by kernel_rfl, fun ty h => (by cases h; exact ⟨by kernel_rfl, by kernel_rfl⟩), fun ty h hf => (by cases h; exact Bool.noConfusion (hf.symm.trans (show Ty.flat _ = false from by kernel_rfl))), fun ty h hf => (by cases h; exact Bool.noConfusion (hf.symm.trans (show oneTy _ = false from by kernel_rfl)))⟩ ?_
  refine TTok.cons ⟨by kernel_rfl, by kernel_rfl, fun ty h => (by cases h; exact ⟨by kernel_rfl, by kernel_rfl⟩), fun ty h hf => (by cases h; exact Bool.noConfusion (hf.symm.trans (show Ty.flat _ = false from by kernel_rfl))), fun ty h hf => (by cases h; exact Bool.noConfusion (hf.symm.trans (show oneTy _ = false from by kernel_rfl)))⟩ ?_
  refine TTok.cons ⟨by kernel_rfl, by kernel_rfl, fun ty h => (by cases h), fun ty h hf => (by cases h), fun ty h hf => (by cases h)⟩ ?_
  refine TTok.cons ⟨by kernel_rfl, by kernel_rfl, fun ty h => (by cases h; exact ⟨by kernel_rfl, by kernel_rfl⟩), fun ty h hf => (by cases h; kernel_rfl), fun ty h hf => (by cases h; exact Bool.noConfusion (hf.symm.trans (show oneTy _ = false from by kernel_rfl)))⟩ ?_
  refine TTok.cons ⟨by kernel_rfl, by kernel_rfl, fun ty h => (by cases h), fun ty h hf => (by cases h), fun ty h hf => (by cases h)⟩ ?_
  exact TTok.nil _
theorem cl72 : ExtOk Try.prog 72 (cloneSpec (.int .u8) 1) := by
  refine clone_good (an := ⟨[], [.own (.int .u8)], [], [], [], [], [], [], []⟩) (fn := Try.f72) (i0 := 0) (i1 := 1) (ops0 := opsOf (sel (bodyOf Try.f72) [0])) (o1 := operAt (sel (bodyOf Try.f72) [1, 0, 0]) 0) (o2 := operAt (sel (bodyOf Try.f72) [1, 0, 0]) 1) (c2 := sel (bodyOf Try.f72) [1, 0, 1]) (t2 := sel (bodyOf Try.f72) [1, 1]) (yt := 22) (by kernel_rfl) ttok (by kernel_rfl) (by kernel_rfl) (by kernel_rfl) (by kernel_rfl) (by kernel_rfl) (by kernel_rfl) (by kernel_rfl) (by kernel_rfl) (by kernel_rfl) (by kernel_rfl) (ts := 22) (e := 5) (by kernel_rfl) (fun l => ⟨upd (argEnv 0 [.val [(0, 0)] (.slice (.int .u8)) l] (fun _ => none)) 2 (some .nils), rowsOf []⟩) (fun l => by kernel_rfl) (fun l => rfl) (fun l K X => by kernel_rfl) (fun b l K h1 h2 => ?_)
  cases b with
  | true => rw [h1 rfl]; kernel_rfl
  | false => exact (show _ = bif decide (0 + l.length ≤ LIM 1) then _ else none from by kernel_rfl).trans (by rw [Nat.zero_add, h2]; rfl)
theorem cl88 : ExtOk Try.prog 88 ssSpec := ss_good
theorem cl104 : ExtOk Try.prog 104 (skSpec (.prod (.int .i64) (.prod (.prod (.int .i64) (.prod .bool (.prod .str (.prod (.int .i64) (.prod .bool (.prod (.slice (.int .u8)) .unit)))))) .unit)) 105 keyIx) := keyIx_good
theorem cl93 : ExtOk Try.prog 93 (skSpec (.prod (.int .i64) (.prod (.int .i64) (.prod .bool (.prod .bool .unit)))) 94 keyGen) := keyGen_good
theorem find_cons {β : Type} {a x : Nat} {b : β} {l : List (Nat × β)} {c : β} (h : findN ((a, b) :: l) x = some c) : (x = a ∧ c = b) ∨ findN l x = some c := by
  simp only [findN] at h
  by_cases e : a = x
  · subst e; simp at h; exact .inl ⟨rfl, h.symm⟩
  · have : (a == x) = false := by simpa using e
    rw [this] at h; exact .inr h
def enOk : Nat × PFn → Prop
  | (g, .code fn _) => Try.prog.funcs[g]? = some fn ∧ (fn.name == "runtime.NumGoroutine") = false
  | (g, .ext _ spec) => ExtOk Try.prog g spec
def allOk : List (Nat × PFn) → Prop
  | [] => True
  | e :: l => enOk e ∧ allOk l
theorem all_find : ∀ {l : List (Nat × PFn)}, allOk l → ∀ {g : Nat} {p : PFn}, findN l g = some p → enOk (g, p)
  | [], _, _, _, h => by cases h
  | (a, b) :: l, h, g, p, e => by
    rcases find_cons e with ⟨e1, e2⟩ | e
    · rw [e1, e2]; exact h.1
    · exact all_find h.2 e
theorem cO {f : Nat} {fn : Func} {an : Ann} (h1 : Try.prog.funcs[f]? = some fn) (h2 : (fn.name == "runtime.NumGoroutine") = false) : enOk (f, .code fn an) := ⟨h1, h2⟩
theorem allF {l : List (Nat × PFn)} (hl : F = findN l) (h : allOk l) : (∀ g fn an, F g = some (.code fn an) → Try.prog.funcs[g]? = some fn ∧ fn.name ≠ "runtime.NumGoroutine") ∧ (∀ g m spec, F g = some (.ext m spec) → ExtOk Try.prog g spec) := by
  refine ⟨fun g fn an e => ?_, fun g m spec e => ?_⟩
  · rw [hl] at e
    have := all_find h e
    exact ⟨this.1, by simpa using this.2⟩
  · rw [hl] at e
    exact all_find h e
theorem okF : (∀ g fn an, F g = some (.code fn an) → Try.prog.funcs[g]? = some fn ∧ fn.name ≠ "runtime.NumGoroutine") ∧ (∀ g m spec, F g = some (.ext m spec) → ExtOk Try.prog g spec) := allF (l := _) (show F = findN _ from rfl) ⟨cO (by kernel_rfl) (by kernel_rfl), cO (by kernel_rfl) (by kernel_rfl), cO (by kernel_rfl) (by kernel_rfl), cO (by kernel_rfl) (by kernel_rfl), cO (by kernel_rfl) (by kernel_rfl), cO (by kernel_rfl) (by kernel_rfl), cO (by kernel_rfl) (by kernel_rfl), cO (by kernel_rfl) (by kernel_rfl), cO (by kernel_rfl) (by kernel_rfl), cO (by kernel_rfl) (by kernel_rfl), cO (by kernel_rfl) (by kernel_rfl), cO (by kernel_rfl) (by kernel_rfl), cl72, cO (by kernel_rfl) (by kernel_rfl), cO (by kernel_rfl) (by kernel_rfl), cO (by kernel_rfl) (by kernel_rfl), cO (by kernel_rfl) (by kernel_rfl), cO (by kernel_rfl) (by kernel_rfl), cO (by kernel_rfl) (by kernel_rfl), cO (by kernel_rfl) (by kernel_rfl), cO (by kernel_rfl) (by kernel_rfl), cO (by kernel_rfl) (by kernel_rfl), cO (by kernel_rfl) (by kernel_rfl), cl88, cO (by kernel_rfl) (by kernel_rfl), cO (by kernel_rfl) (by kernel_rfl), cO (by kernel_rfl) (by kernel_rfl), cO (by kernel_rfl) (by kernel_rfl), cl104, cO (by kernel_rfl) (by kernel_rfl), cl93, cO (by kernel_rfl) (by kernel_rfl), cO (by kernel_rfl) (by kernel_rfl), cO (by kernel_rfl) (by kernel_rfl), cO (by kernel_rfl) (by kernel_rfl), cO (by kernel_rfl) (by kernel_rfl), cO (by kernel_rfl) (by kernel_rfl), cO (by kernel_rfl) (by kernel_rfl), cO (by kernel_rfl) (by kernel_rfl), cO (by kernel_rfl) (by kernel_rfl), cO (by kernel_rfl) (by kernel_rfl), cO (by kernel_rfl) (by kernel_rfl), cO (by kernel_rfl) (by kernel_rfl), cO (by kernel_rfl) (by kernel_rfl), cO (by kernel_rfl) (by kernel_rfl), cO (by kernel_rfl) (by kernel_rfl), cO (by kernel_rfl) (by kernel_rfl), cO (by kernel_rfl) (by kernel_rfl), cO (by kernel_rfl) (by kernel_rfl), trivial⟩
theorem fok : Fok Try.prog F := ⟨by kernel_rfl, okF.1, okF.2⟩
end Go.Proofs.Ytecnlienmpdlaaa.PM

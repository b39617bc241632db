/- The tables of the small machine are the program's (printed by a program of this work). -/
import Derived.Test.YtoepnomdklhhlaaGreatPW2
import Derived.Test.YtoepnomdklhhlaaGreatChecked
import Derived.Test.YtoepnomdklhhlaaGreatPmSrt
import Derived.Test.YtoepnomdklhhlaaGreatPmSo
import Derived.Test.YtoepnomdklhhlaaGreatPmRp
set_option linter.unusedVariables false
set_option maxRecDepth 100000
namespace Go.Proofs.YtoepnomdklhhlaaGreat.PM
open Go
theorem ttok : TTok Tryz.prog T := by
  unfold T
  refine TTok.cons ⟨by kernel_rfl, by kernel_rfl, fun ty h => by cases h; exact ⟨by kernel_rfl, by kernel_rfl⟩, fun ty h hf => by cases h; kernel_rfl⟩ ?_
  refine TTok.cons ⟨by kernel_rfl, by kernel_rfl, fun ty h => by cases h; exact ⟨by kernel_rfl, by kernel_rfl⟩, fun ty h hf => by cases h; kernel_rfl⟩ ?_
  refine TTok.cons ⟨by kernel_rfl, by kernel_rfl, fun ty h => by cases h; exact ⟨by kernel_rfl, by kernel_rfl⟩, fun ty h hf => by cases h; kernel_rfl⟩ ?_
  refine TTok.cons ⟨by kernel_rfl, by kernel_rfl, fun ty h => by cases h; exact ⟨by kernel_rfl, by kernel_rfl⟩, fun ty h hf => by cases h; kernel_rfl⟩ ?_
  refine TTok.cons ⟨by kernel_rfl, by kernel_rfl, fun ty h => by cases h; exact ⟨by kernel_rfl, by kernel_rfl⟩, fun ty h hf => by cases h; exact Bool.noConfusion (hf.symm.trans (show Ty.flat _ = false from by kernel_rfl))⟩ ?_
  refine TTok.cons ⟨by kernel_rfl, by kernel_rfl, fun ty h => by cases h; exact ⟨by kernel_rfl, by kernel_rfl⟩, fun ty h hf => by cases h; exact Bool.noConfusion (hf.symm.trans (show Ty.flat _ = false from by kernel_rfl))⟩ ?_
  refine TTok.cons ⟨by kernel_rfl, by kernel_rfl, fun ty h => by cases h; exact ⟨by kernel_rfl, by kernel_rfl⟩, fun ty h hf => by cases h; kernel_rfl⟩ ?_
  refine TTok.cons ⟨by kernel_rfl, by kernel_rfl, fun ty h => by cases h; exact ⟨by kernel_rfl, by kernel_rfl⟩, fun ty h hf => by cases h; exact Bool.noConfusion (hf.symm.trans (show Ty.flat _ = false from by kernel_rfl))⟩ ?_
  refine TTok.cons ⟨by kernel_rfl, by kernel_rfl, fun ty h => by cases h; exact ⟨by kernel_rfl, by kernel_rfl⟩, fun ty h hf => by cases h; kernel_rfl⟩ ?_
  refine TTok.cons ⟨by kernel_rfl, by kernel_rfl, fun ty h => by cases h; exact ⟨by kernel_rfl, by kernel_rfl⟩, fun ty h hf => by cases h; exact Bool.noConfusion (hf.symm.trans (show Ty.flat _ = false from by kernel_rfl))⟩ ?_
  refine TTok.cons ⟨by kernel_rfl, by kernel_rfl, fun ty h => by cases h; exact ⟨by kernel_rfl, by kernel_rfl⟩, fun ty h hf => by cases h; exact Bool.noConfusion (hf.symm.trans (show Ty.flat _ = false from by kernel_rfl))⟩ ?_
  refine TTok.cons ⟨by kernel_rfl, by kernel_rfl, fun ty h => by cases h; exact ⟨by kernel_rfl, by kernel_rfl⟩, fun ty h hf => by cases h; exact Bool.noConfusion (hf.symm.trans (show Ty.flat _ = false from by kernel_rfl))⟩ ?_
  refine TTok.cons ⟨by kernel_rfl, by kernel_rfl, fun ty h => by cases h; exact ⟨by kernel_rfl, by kernel_rfl⟩, fun ty h hf => by cases h; exact Bool.noConfusion (hf.symm.trans (show Ty.flat _ = false from by kernel_rfl))⟩ ?_
  refine TTok.cons ⟨by kernel_rfl, by kernel_rfl, fun ty h => by cases h; exact ⟨by kernel_rfl, by kernel_rfl⟩, fun ty h hf => by cases h; exact Bool.noConfusion (hf.symm.trans (show Ty.flat _ = false from by kernel_rfl))⟩ ?_
  refine TTok.cons ⟨by kernel_rfl, by kernel_rfl, fun ty h => by cases h; exact ⟨by kernel_rfl, by kernel_rfl⟩, fun ty h hf => by cases h; exact Bool.noConfusion (hf.symm.trans (show Ty.flat _ = false from by kernel_rfl))⟩ ?_
  refine TTok.cons ⟨by kernel_rfl, by kernel_rfl, fun ty h => by cases h; exact ⟨by kernel_rfl, by kernel_rfl⟩, fun ty h hf => by cases h; exact Bool.noConfusion (hf.symm.trans (show Ty.flat _ = false from by kernel_rfl))⟩ ?_
  refine TTok.cons ⟨by kernel_rfl, by kernel_rfl, fun ty h => by cases h; exact ⟨by kernel_rfl, by kernel_rfl⟩, fun ty h hf => by cases h; exact Bool.noConfusion (hf.symm.trans (show Ty.flat _ = false from by kernel_rfl))⟩ ?_
  refine TTok.cons ⟨by kernel_rfl, by kernel_rfl, fun ty h => by cases h; exact ⟨by kernel_rfl, by kernel_rfl⟩, fun ty h hf => by cases h; kernel_rfl⟩ ?_
  refine TTok.cons ⟨by kernel_rfl, by kernel_rfl, fun ty h => by cases h; exact ⟨by kernel_rfl, by kernel_rfl⟩, fun ty h hf => by cases h; exact Bool.noConfusion (hf.symm.trans (show Ty.flat _ = false from by kernel_rfl))⟩ ?_
  refine TTok.cons ⟨by kernel_rfl, by kernel_rfl, fun ty h => by cases h; exact ⟨by kernel_rfl, by kernel_rfl⟩, fun ty h hf => by cases h; exact Bool.noConfusion (hf.symm.trans (show Ty.flat _ = false from by kernel_rfl))⟩ ?_
  refine TTok.cons ⟨by kernel_rfl, by kernel_rfl, fun ty h => by cases h; exact ⟨by kernel_rfl, by kernel_rfl⟩, fun ty h hf => by cases h; exact Bool.noConfusion (hf.symm.trans (show Ty.flat _ = false from by kernel_rfl))⟩ ?_
  refine TTok.cons ⟨by kernel_rfl, by kernel_rfl, fun ty h => by cases h; exact ⟨by kernel_rfl, by kernel_rfl⟩, fun ty h hf => by cases h; kernel_rfl⟩ ?_
  refine TTok.cons ⟨by kernel_rfl, by kernel_rfl, fun ty h => by cases h; exact ⟨by kernel_rfl, by kernel_rfl⟩, fun ty h hf => by cases h; exact Bool.noConfusion (hf.symm.trans (show Ty.flat _ = false from by kernel_rfl))⟩ ?_
  refine TTok.cons ⟨by kernel_rfl, by kernel_rfl, fun ty h => by cases h; exact ⟨by kernel_rfl, by kernel_rfl⟩, fun ty h hf => by cases h; kernel_rfl⟩ ?_
  refine TTok.cons ⟨by kernel_rfl, by kernel_rfl, fun ty h => by cases h; exact ⟨by kernel_rfl, by kernel_rfl⟩, fun ty h hf => by cases h; exact Bool.noConfusion (hf.symm.trans (show Ty.flat _ = false from by kernel_rfl))⟩ ?_
  exact TTok.nil _
theorem cl43 : ExtOk Tryz.prog 43 (cloneSpec (.int .u8) 1) := by
  refine clone_good (an := ⟨[], [.own (.int .u8)], [], [], [], [], [], [], []⟩) (fn := Tryz.f43) (i0 := 0) (i1 := 1) (ops0 := opsOf (sel (bodyOf Tryz.f43) [0])) (o1 := operAt (sel (bodyOf Tryz.f43) [1, 0, 0]) 0) (o2 := operAt (sel (bodyOf Tryz.f43) [1, 0, 0]) 1) (c2 := sel (bodyOf Tryz.f43) [1, 0, 1]) (t2 := sel (bodyOf Tryz.f43) [1, 1]) (yt := 22) (by kernel_rfl) ttok (by kernel_rfl) (by kernel_rfl) (by kernel_rfl) (by kernel_rfl) (by kernel_rfl) (by kernel_rfl) (by kernel_rfl) (by kernel_rfl) (by kernel_rfl) (by kernel_rfl) (ts := 22) (e := 5) (by kernel_rfl) (fun l => ⟨upd (argEnv 0 [.val [(0, 0)] (.slice (.int .u8)) l] (fun _ => none)) 2 (some .nils), rowsOf []⟩) (fun l => by kernel_rfl) (fun l => rfl) (fun l K X => by kernel_rfl) (fun b l K h1 h2 => ?_)
  cases b with
  | true => rw [h1 rfl]; kernel_rfl
  | false => exact (show _ = bif decide (0 + l.length ≤ LIM 1) then _ else none from by kernel_rfl).trans (by rw [Nat.zero_add, h2]; rfl)
theorem cl131 : ExtOk Tryz.prog 131 (cloneSpec (.prod (.int .i64) (.prod (.int .i64) .unit)) 16) := by
  refine clone_good (an := ⟨[], [.own (.prod (.int .i64) (.prod (.int .i64) .unit))], [], [], [], [], [], [], []⟩) (fn := Tryz.f131) (i0 := 0) (i1 := 1) (ops0 := opsOf (sel (bodyOf Tryz.f131) [0])) (o1 := operAt (sel (bodyOf Tryz.f131) [1, 0, 0]) 0) (o2 := operAt (sel (bodyOf Tryz.f131) [1, 0, 0]) 1) (c2 := sel (bodyOf Tryz.f131) [1, 0, 1]) (t2 := sel (bodyOf Tryz.f131) [1, 1]) (yt := 33) (by kernel_rfl) ttok (by kernel_rfl) (by kernel_rfl) (by kernel_rfl) (by kernel_rfl) (by kernel_rfl) (by kernel_rfl) (by kernel_rfl) (by kernel_rfl) (by kernel_rfl) (by kernel_rfl) (ts := 33) (e := 206) (by kernel_rfl) (fun l => ⟨upd (argEnv 0 [.val [(0, 0)] (.slice (.prod (.int .i64) (.prod (.int .i64) .unit))) l] (fun _ => none)) 2 (some .nils), rowsOf []⟩) (fun l => by kernel_rfl) (fun l => rfl) (fun l K X => by kernel_rfl) (fun b l K h1 h2 => ?_)
  cases b with
  | true => rw [h1 rfl]; kernel_rfl
  | false => exact (show _ = bif decide (0 + l.length ≤ LIM 16) then _ else none from by kernel_rfl).trans (by rw [Nat.zero_add, h2]; rfl)
theorem cl40 : ExtOk Tryz.prog 40 (cloneSpec (.int .i64) 8) := by
  refine clone_good (an := ⟨[], [.own (.int .i64)], [], [], [], [], [], [], []⟩) (fn := Tryz.f40) (i0 := 0) (i1 := 1) (ops0 := opsOf (sel (bodyOf Tryz.f40) [0])) (o1 := operAt (sel (bodyOf Tryz.f40) [1, 0, 0]) 0) (o2 := operAt (sel (bodyOf Tryz.f40) [1, 0, 0]) 1) (c2 := sel (bodyOf Tryz.f40) [1, 0, 1]) (t2 := sel (bodyOf Tryz.f40) [1, 1]) (yt := 23) (by kernel_rfl) ttok (by kernel_rfl) (by kernel_rfl) (by kernel_rfl) (by kernel_rfl) (by kernel_rfl) (by kernel_rfl) (by kernel_rfl) (by kernel_rfl) (by kernel_rfl) (by kernel_rfl) (ts := 23) (e := 3) (by kernel_rfl) (fun l => ⟨upd (argEnv 0 [.val [(0, 0)] (.slice (.int .i64)) l] (fun _ => none)) 2 (some .nils), rowsOf []⟩) (fun l => by kernel_rfl) (fun l => rfl) (fun l K X => by kernel_rfl) (fun b l K h1 h2 => ?_)
  cases b with
  | true => rw [h1 rfl]; kernel_rfl
  | false => exact (show _ = bif decide (0 + l.length ≤ LIM 8) then _ else none from by kernel_rfl).trans (by rw [Nat.zero_add, h2]; rfl)
theorem cl125 : ExtOk Tryz.prog 125 repSpec := repeat_good
theorem cl154 : ExtOk Tryz.prog 154 (sortSpec 155) := sort_good
theorem cl49 : ExtOk Tryz.prog 49 sortISpec := sorti_good
theorem find_cons {β : Type} {a x : Nat} {b : β} {l : List (Nat × β)} {c : β} (h : findN ((a, b) :: l) x = some c) : (x = a ∧ c = b) ∨ findN l x = some c := by
  simp only [findN] at h
  by_cases e : a = x
  · subst e; simp at h; exact .inl ⟨rfl, h.symm⟩
  · have : (a == x) = false := by simpa using e
    rw [this] at h; exact .inr h
def enOk : Nat × PFn → Prop
  | (g, .code fn _) => Tryz.prog.funcs[g]? = some fn ∧ (fn.name == "runtime.NumGoroutine") = false
  | (g, .ext _ spec) => ExtOk Tryz.prog g spec
def allOk : List (Nat × PFn) → Prop
  | [] => True
  | e :: l => enOk e ∧ allOk l
theorem all_find : ∀ {l : List (Nat × PFn)}, allOk l → ∀ {g : Nat} {p : PFn}, findN l g = some p → enOk (g, p)
  | [], _, _, _, h => by cases h
  | (a, b) :: l, h, g, p, e => by
    rcases find_cons e with ⟨e1, e2⟩ | e
    · rw [e1, e2]; exact h.1
    · exact all_find h.2 e
theorem cO {f : Nat} {fn : Func} {an : Ann} (h1 : Tryz.prog.funcs[f]? = some fn) (h2 : (fn.name == "runtime.NumGoroutine") = false) : enOk (f, .code fn an) := ⟨h1, h2⟩
theorem allF {l : List (Nat × PFn)} (hl : F = findN l) (h : allOk l) : (∀ g fn an, F g = some (.code fn an) → Tryz.prog.funcs[g]? = some fn ∧ fn.name ≠ "runtime.NumGoroutine") ∧ (∀ g m spec, F g = some (.ext m spec) → ExtOk Tryz.prog g spec) := by
  refine ⟨fun g fn an e => ?_, fun g m spec e => ?_⟩
  · rw [hl] at e
    have := all_find h e
    exact ⟨this.1, by simpa using this.2⟩
  · rw [hl] at e
    exact all_find h e
theorem okF : (∀ g fn an, F g = some (.code fn an) → Tryz.prog.funcs[g]? = some fn ∧ fn.name ≠ "runtime.NumGoroutine") ∧ (∀ g m spec, F g = some (.ext m spec) → ExtOk Tryz.prog g spec) := allF (l := _) (show F = findN _ from rfl) ⟨cO (by kernel_rfl) (by kernel_rfl), cO (by kernel_rfl) (by kernel_rfl), cO (by kernel_rfl) (by kernel_rfl), cO (by kernel_rfl) (by kernel_rfl), cO (by kernel_rfl) (by kernel_rfl), cO (by kernel_rfl) (by kernel_rfl), cO (by kernel_rfl) (by kernel_rfl), cO (by kernel_rfl) (by kernel_rfl), cO (by kernel_rfl) (by kernel_rfl), cO (by kernel_rfl) (by kernel_rfl), cO (by kernel_rfl) (by kernel_rfl), cO (by kernel_rfl) (by kernel_rfl), cO (by kernel_rfl) (by kernel_rfl), cl43, cO (by kernel_rfl) (by kernel_rfl), cO (by kernel_rfl) (by kernel_rfl), cO (by kernel_rfl) (by kernel_rfl), cO (by kernel_rfl) (by kernel_rfl), cl125, cO (by kernel_rfl) (by kernel_rfl), cO (by kernel_rfl) (by kernel_rfl), cO (by kernel_rfl) (by kernel_rfl), cl154, cO (by kernel_rfl) (by kernel_rfl), cO (by kernel_rfl) (by kernel_rfl), cO (by kernel_rfl) (by kernel_rfl), cO (by kernel_rfl) (by kernel_rfl), cO (by kernel_rfl) (by kernel_rfl), cO (by kernel_rfl) (by kernel_rfl), cO (by kernel_rfl) (by kernel_rfl), cO (by kernel_rfl) (by kernel_rfl), cO (by kernel_rfl) (by kernel_rfl), cO (by kernel_rfl) (by kernel_rfl), cO (by kernel_rfl) (by kernel_rfl), cO (by kernel_rfl) (by kernel_rfl), cO (by kernel_rfl) (by kernel_rfl), cl131, cO (by kernel_rfl) (by kernel_rfl), cO (by kernel_rfl) (by kernel_rfl), cO (by kernel_rfl) (by kernel_rfl), cO (by kernel_rfl) (by kernel_rfl), cO (by kernel_rfl) (by kernel_rfl), cO (by kernel_rfl) (by kernel_rfl), cO (by kernel_rfl) (by kernel_rfl), cO (by kernel_rfl) (by kernel_rfl), cO (by kernel_rfl) (by kernel_rfl), cO (by kernel_rfl) (by kernel_rfl), cO (by kernel_rfl) (by kernel_rfl), cO (by kernel_rfl) (by kernel_rfl), cO (by kernel_rfl) (by kernel_rfl), cO (by kernel_rfl) (by kernel_rfl), cO (by kernel_rfl) (by kernel_rfl), cO (by kernel_rfl) (by kernel_rfl), cO (by kernel_rfl) (by kernel_rfl), cO (by kernel_rfl) (by kernel_rfl), cO (by kernel_rfl) (by kernel_rfl), cl40, cO (by kernel_rfl) (by kernel_rfl), cO (by kernel_rfl) (by kernel_rfl), cO (by kernel_rfl) (by kernel_rfl), cl49, cO (by kernel_rfl) (by kernel_rfl), cO (by kernel_rfl) (by kernel_rfl), cO (by kernel_rfl) (by kernel_rfl), cO (by kernel_rfl) (by kernel_rfl), trivial⟩
theorem fok : Fok Tryz.prog F := ⟨by kernel_rfl, okF.1, okF.2⟩
end Go.Proofs.YtoepnomdklhhlaaGreat.PM

import Derived.Test.YtecnlienmpdlaaaGreatPW2
import Derived.Test.YtecnlienmpdlaaaGreatChecked
import Derived.Test.YtecnlienmpdlaaaGreatPmSk
set_option linter.unusedVariables false
set_option maxRecDepth 100000
namespace Go.Proofs.YtecnlienmpdlaaaGreat.PM
open Go
theorem ttok : TTok Tryz.prog T := by
 unfold T
 refine TTok.cons ⟨by kernel_rfl, by kernel_rfl, fun ty h => (by cases h; exact ⟨by kernel_rfl, by kernel_rfl⟩), fun ty h hf => (by cases h; kernel_rfl), fun ty h hf => (by cases h; kernel_rfl)⟩ ?_
 refine TTok.cons ⟨by kernel_rfl, by kernel_rfl, fun ty h => (by cases h; exact ⟨by kernel_rfl, by kernel_rfl⟩), fun ty h hf => (by cases h; kernel_rfl), fun ty h hf => (by cases h; kernel_rfl)⟩ ?_
 refine TTok.cons ⟨by kernel_rfl, by kernel_rfl, fun ty h => (by cases h; exact ⟨by kernel_rfl, by kernel_rfl⟩), fun ty h hf => (by cases h; kernel_rfl), fun ty h hf => (by cases h; kernel_rfl)⟩ ?_
 refine TTok.cons ⟨by kernel_rfl, by kernel_rfl, fun ty h => (by cases h; exact ⟨by kernel_rfl, by kernel_rfl⟩), fun ty h hf => (by cases h; kernel_rfl), fun ty h hf => (by cases h; kernel_rfl)⟩ ?_
 refine TTok.cons ⟨by kernel_rfl, by kernel_rfl, fun ty h => (by cases h; exact ⟨by kernel_rfl, by kernel_rfl⟩), fun ty h hf => (by cases h; exact Bool.noConfusion (hf.symm.trans (show Ty.flat _ = false from by kernel_rfl))), fun ty h hf => (by cases h; kernel_rfl)⟩ ?_
 refine TTok.cons ⟨by kernel_rfl, by kernel_rfl, fun ty h => (by cases h; exact ⟨by kernel_rfl, by kernel_rfl⟩), fun ty h hf => (by cases h; exact Bool.noConfusion (hf.symm.trans (show Ty.flat _ = false from by kernel_rfl))), fun ty h hf => (by cases h; kernel_rfl)⟩ ?_
 refine TTok.cons ⟨by kernel_rfl, by kernel_rfl, fun ty h => (by cases h; exact ⟨by kernel_rfl, by kernel_rfl⟩), fun ty h hf => (by cases h; exact Bool.noConfusion (hf.symm.trans (show Ty.flat _ = false from by kernel_rfl))), fun ty h hf => (by cases h; exact Bool.noConfusion (hf.symm.trans (show oneTy _ = false from by kernel_rfl)))⟩ ?_
 refine TTok.cons ⟨by kernel_rfl, by kernel_rfl, fun ty h => (by cases h; exact ⟨by kernel_rfl, by kernel_rfl⟩), fun ty h hf => (by cases h; exact Bool.noConfusion (hf.symm.trans (show Ty.flat _ = false from by kernel_rfl))), fun ty h hf => (by cases h; kernel_rfl)⟩ ?_
 refine TTok.cons ⟨by kernel_rfl, by kernel_rfl, fun ty h => (by cases h; exact ⟨by kernel_rfl, by kernel_rfl⟩), fun ty h hf => (by cases h; kernel_rfl), fun ty h hf => (by cases h; exact Bool.noConfusion (hf.symm.trans (show oneTy _ = false from by kernel_rfl)))⟩ ?_
 refine TTok.cons ⟨by kernel_rfl, by kernel_rfl, fun ty h => (by cases h; exact ⟨by kernel_rfl, by kernel_rfl⟩), fun ty h hf => (by cases h; exact Bool.noConfusion (hf.symm.trans (show Ty.flat _ = false from by kernel_rfl))), fun ty h hf => (by cases h; kernel_rfl)⟩ ?_
 refine TTok.cons ⟨by kernel_rfl, by kernel_rfl, fun ty h => (by cases h; exact ⟨by kernel_rfl, by kernel_rfl⟩), fun ty h hf => (by cases h; exact Bool.noConfusion (hf.symm.trans (show Ty.flat _ = false from by kernel_rfl))), fun ty h hf => (by cases h; kernel_rfl)⟩ ?_
 refine TTok.cons ⟨by kernel_rfl, by kernel_rfl, fun ty h => (by cases h; exact ⟨by kernel_rfl, by kernel_rfl⟩), fun ty h hf => (by cases h; exact Bool.noConfusion (hf.symm.trans (show Ty.flat _ = false from by kernel_rfl))), fun ty h hf => (by cases h; exact Bool.noConfusion (hf.symm.trans (show oneTy _ = false from by kernel_rfl)))⟩ ?_
 refine TTok.cons ⟨by kernel_rfl, by kernel_rfl, fun ty h => (by cases h; exact ⟨by kernel_rfl, by kernel_rfl⟩), fun ty h hf => (by cases h; exact Bool.noConfusion (hf.symm.trans (show Ty.flat _ = false from by kernel_rfl))), fun ty h hf => (by cases h; exact Bool.noConfusion (hf.symm.trans (show oneTy _ = false from by kernel_rfl)))⟩ ?_
 refine TTok.cons ⟨by kernel_rfl, by kernel_rfl, fun ty h => (by cases h; exact ⟨by kernel_rfl, by kernel_rfl⟩), fun ty h hf => (by cases h; exact Bool.noConfusion (hf.symm.trans (show Ty.flat _ = false from by kernel_rfl))), fun ty h hf => (by cases h; kernel_rfl)⟩ ?_
 refine TTok.cons ⟨by kernel_rfl, by kernel_rfl, fun ty h => (by cases h; exact ⟨by kernel_rfl, by kernel_rfl⟩), fun ty h hf => (by cases h; exact Bool.noConfusion (hf.symm.trans (show Ty.flat _ = false from by kernel_rfl))), fun ty h hf => (by cases h; exact Bool.noConfusion (hf.symm.trans (show oneTy _ = false from by kernel_rfl)))⟩ ?_
 refine TTok.cons ⟨by kernel_rfl, by kernel_rfl, fun ty h => (by cases h), fun ty h hf => (by cases h), fun ty h hf => (by cases h)⟩ ?_
 refine TTok.cons ⟨by kernel_rfl, by kernel_rfl, fun ty h => (by cases h; exact ⟨by kernel_rfl, by kernel_rfl⟩), fun ty h hf => (by cases h; kernel_rfl), fun ty h hf => (by cases h; exact Bool.noConfusion (hf.symm.trans (show oneTy _ = false from by kernel_rfl)))⟩ ?_
 refine TTok.cons ⟨by kernel_rfl, by kernel_rfl, fun ty h => (by cases h; exact ⟨by kernel_rfl, by kernel_rfl⟩), fun ty h hf => (by cases h; kernel_rfl), fun ty h hf => (by cases h; kernel_rfl)⟩ ?_
 refine TTok.cons ⟨by kernel_rfl, by kernel_rfl, fun ty h => (by cases h), fun ty h hf => (by cases h), fun ty h hf => (by cases h)⟩ ?_
 refine TTok.cons ⟨by kernel_rfl, by kernel_rfl, fun ty h => (by cases h; exact ⟨by kernel_rfl, by kernel_rfl⟩), fun ty h hf => (by cases h; exact Bool.noConfusion (hf.symm.trans (show Ty.flat _ = false from by kernel_rfl))), fun ty h hf => (by cases h; kernel_rfl)⟩ ?_
 refine TTok.cons ⟨by kernel_rfl, by kernel_rfl, fun ty h => (by cases h; exact ⟨by kernel_rfl, by kernel_rfl⟩), fun ty h hf => (by cases h; exact Bool.noConfusion (hf.symm.trans (show Ty.flat _ = false from by kernel_rfl))), fun ty h hf => (by cases h; exact Bool.noConfusion (hf.symm.trans (show oneTy _ = false from by kernel_rfl)))⟩ ?_
 exact TTok.nil _
theorem cl83 : ExtOk Tryz.prog 83 (Q3k (.int .u8) 1) := by
 refine Qtb (an := ⟨[], [.own (.int .u8)], [], [], [], [], [], [], []⟩) (fn := Tryz.f83) (i0 := 0) (i1 := 1) (ops0 := opsOf (sel (bodyOf Tryz.f83) [0])) (o1 := operAt (sel (bodyOf Tryz.f83) [1, 0, 0]) 0) (o2 := operAt (sel (bodyOf Tryz.f83) [1, 0, 0]) 1) (c2 := sel (bodyOf Tryz.f83) [1, 0, 1]) (t2 := sel (bodyOf Tryz.f83) [1, 1]) (yt := 22) (by kernel_rfl) ttok (by kernel_rfl) (by kernel_rfl) (by kernel_rfl) (by kernel_rfl) (by kernel_rfl) (by kernel_rfl) (by kernel_rfl) (by kernel_rfl) (by kernel_rfl) (by kernel_rfl) (ts := 22) (e := 5) (by kernel_rfl) (fun l => ⟨upd (argEnv 0 [.val [(0, 0)] (.slice (.int .u8)) l] (fun _ => none)) 2 (some .nils), rowsOf []⟩) (fun l => by kernel_rfl) (fun l => rfl) (fun l K X => by kernel_rfl) (fun b l K h1 h2 => ?_)
 cases b with
 | true => rw [h1 rfl]; kernel_rfl
 | false => exact (show _ = bif decide (0 + l.length ≤ LIM 1) then _ else none from by kernel_rfl).trans (by rw [Nat.zero_add, h2]; rfl)
theorem cl122 : ExtOk Tryz.prog 122 ssSpec := Q1dz
theorem cl135 : ExtOk Tryz.prog 135 (skSpec (.prod (.int .i64) (.prod (.prod (.int .i64) (.prod .bool (.prod .str (.prod (.int .i64) (.prod .bool (.prod (.slice (.int .u8)) .unit)))))) .unit)) 136 keyIx) := Qtm
theorem cl119 : ExtOk Tryz.prog 119 (skSpec (.prod (.int .i64) (.prod (.int .i64) (.prod .bool (.prod .bool .unit)))) 120 keyGen) := Qop
theorem cl117 : ExtOk Tryz.prog 117 Q3q := Qtz
theorem Q135 {β : Type} {a x : Nat} {b : β} {l : List (Nat × β)} {c : β} (h : findN ((a, b) :: l) x = some c) : (x = a ∧ c = b) ∨ findN l x = some c := by
 simp only [findN] at h
 by_cases e : a = x
 ·subst e; simp at h; exact .inl ⟨rfl, h.symm⟩
 ·have : (a == x) = false := by simpa using e
  rw [this] at h; exact .inr h
def enOk : Nat × PFn → Prop
 | (g, .code fn _) => Tryz.prog.funcs[g]? = some fn ∧ (fn.name == "runtime.NumGoroutine") = false
 | (g, .ext _ spec) => ExtOk Tryz.prog g spec
def allOk : List (Nat × PFn) → Prop
 | [] => True
 | e :: l => enOk e ∧ allOk l
theorem Qgs : ∀ {l : List (Nat × PFn)}, allOk l → ∀ {g : Nat} {p : PFn}, findN l g = some p → enOk (g, p)
 | [], _, _, _, h => by cases h
 | (a, b) :: l, h, g, p, e => by
   rcases Q135 e with ⟨e1, e2⟩ | e
   ·rw [e1, e2]; exact h.1
   ·exact Qgs h.2 e
theorem cO {f : Nat} {fn : Func} {an : Ann} (h1 : Tryz.prog.funcs[f]? = some fn) (h2 : (fn.name == "runtime.NumGoroutine") = false) : enOk (f, .code fn an) := ⟨h1, h2⟩
theorem allF {l : List (Nat × PFn)} (hl : F = findN l) (h : allOk l) : (∀ g fn an, F g = some (.code fn an) → Tryz.prog.funcs[g]? = some fn ∧ fn.name ≠ "runtime.NumGoroutine") ∧ (∀ g m spec, F g = some (.ext m spec) → ExtOk Tryz.prog g spec) := by
 refine ⟨fun g fn an e => ?_, fun g m spec e => ?_⟩
 ·rw [hl] at e
  have := Qgs h e
  exact ⟨this.1, by simpa using this.2⟩
 ·rw [hl] at e
  exact Qgs h e
theorem okF : (∀ g fn an, F g = some (.code fn an) → Tryz.prog.funcs[g]? = some fn ∧ fn.name ≠ "runtime.NumGoroutine") ∧ (∀ g m spec, F g = some (.ext m spec) → ExtOk Tryz.prog g spec) := allF (l := _) (show F = findN _ from rfl) ⟨cO (by kernel_rfl) (by kernel_rfl), cO (by kernel_rfl) (by kernel_rfl), cO (by kernel_rfl) (by kernel_rfl), cO (by kernel_rfl) (by kernel_rfl), cO (by kernel_rfl) (by kernel_rfl), cO (by kernel_rfl) (by kernel_rfl), cO (by kernel_rfl) (by kernel_rfl), cO (by kernel_rfl) (by kernel_rfl), cO (by kernel_rfl) (by kernel_rfl), cO (by kernel_rfl) (by kernel_rfl), cO (by kernel_rfl) (by kernel_rfl), cO (by kernel_rfl) (by kernel_rfl), cl83, cO (by kernel_rfl) (by kernel_rfl), cO (by kernel_rfl) (by kernel_rfl), cO (by kernel_rfl) (by kernel_rfl), cO (by kernel_rfl) (by kernel_rfl), cO (by kernel_rfl) (by kernel_rfl), cO (by kernel_rfl) (by kernel_rfl), cO (by kernel_rfl) (by kernel_rfl), cO (by kernel_rfl) (by kernel_rfl), cO (by kernel_rfl) (by kernel_rfl), cO (by kernel_rfl) (by kernel_rfl), cO (by kernel_rfl) (by kernel_rfl), cO (by kernel_rfl) (by kernel_rfl), cO (by kernel_rfl) (by kernel_rfl), cO (by kernel_rfl) (by kernel_rfl), cO (by kernel_rfl) (by kernel_rfl), cO (by kernel_rfl) (by kernel_rfl), cO (by kernel_rfl) (by kernel_rfl), cO (by kernel_rfl) (by kernel_rfl), cO (by kernel_rfl) (by kernel_rfl), cO (by kernel_rfl) (by kernel_rfl), cO (by kernel_rfl) (by kernel_rfl), cO (by kernel_rfl) (by kernel_rfl), cO (by kernel_rfl) (by kernel_rfl), cO (by kernel_rfl) (by kernel_rfl), cO (by kernel_rfl) (by kernel_rfl), cO (by kernel_rfl) (by kernel_rfl), cO (by kernel_rfl) (by kernel_rfl), cO (by kernel_rfl) (by kernel_rfl), cO (by kernel_rfl) (by kernel_rfl), cO (by kernel_rfl) (by kernel_rfl), cO (by kernel_rfl) (by kernel_rfl), cO (by kernel_rfl) (by kernel_rfl), cO (by kernel_rfl) (by kernel_rfl), cO (by kernel_rfl) (by kernel_rfl), cO (by kernel_rfl) (by kernel_rfl), cO (by kernel_rfl) (by kernel_rfl), cO (by kernel_rfl) (by kernel_rfl), cO (by kernel_rfl) (by kernel_rfl), cO (by kernel_rfl) (by kernel_rfl), cO (by kernel_rfl) (by kernel_rfl), cO (by kernel_rfl) (by kernel_rfl), cO (by kernel_rfl) (by kernel_rfl), cl122, cO (by kernel_rfl) (by kernel_rfl), cO (by kernel_rfl) (by kernel_rfl), cO (by kernel_rfl) (by kernel_rfl), cO (by kernel_rfl) (by kernel_rfl), cl135, cO (by kernel_rfl) (by kernel_rfl), cl119, cO (by kernel_rfl) (by kernel_rfl), cO (by kernel_rfl) (by kernel_rfl), cl117, cO (by kernel_rfl) (by kernel_rfl), cO (by kernel_rfl) (by kernel_rfl), cO (by kernel_rfl) (by kernel_rfl), cO (by kernel_rfl) (by kernel_rfl), cO (by kernel_rfl) (by kernel_rfl), cO (by kernel_rfl) (by kernel_rfl), cO (by kernel_rfl) (by kernel_rfl), cO (by kernel_rfl) (by kernel_rfl), cO (by kernel_rfl) (by kernel_rfl), cO (by kernel_rfl) (by kernel_rfl), cO (by kernel_rfl) (by kernel_rfl), cO (by kernel_rfl) (by kernel_rfl), cO (by kernel_rfl) (by kernel_rfl), cO (by kernel_rfl) (by kernel_rfl), trivial⟩
theorem fok : Fok Tryz.prog F := ⟨by kernel_rfl, okF.1, okF.2⟩
end Go.Proofs.YtecnlienmpdlaaaGreat.PM

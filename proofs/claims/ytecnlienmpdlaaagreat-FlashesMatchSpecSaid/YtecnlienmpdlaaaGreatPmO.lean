import Derived.Test.YtecnlienmpdlaaaGreatPmN
import Derived.SizedLaws
set_option linter.unusedSimpArgs false
set_option linter.unusedVariables false
namespace Go.Proofs.YtecnlienmpdlaaaGreat.PM
open Go
def Szd : (t : Ty) → t.D → Prop
 | .int _, _ => True
 | .bool, _ => True
 | .str, s => s.size ≤ reachBytes
 | .unit, _ => True
 | .slice t, l => l.length * t.bytes ≤ reachBytes ∧ ∀ x ∈ l, Szd t x
 | .prod a b, x => Szd a x.1 ∧ Szd b x.2
section
variable {H : Type} {P : Program}
theorem Q70 {e : TypeId} {q : Nat → Bool} : ∀ {ds : List (DataW H)}, (DataW.weightsAll P e ds).all q = true → ∀ d ∈ ds, (d.weights P e).all q = true
 | d :: ds, h, x, hx => by
   simp only [DataW.weightsAll, List.all_append, Bool.and_eq_true] at h
   rcases List.mem_cons.1 hx with rfl | hx
   ·exact h.1
   ·exact Q70 h.2 x hx
mutual
theorem sized : ∀ (ty : Ty) {t : Nat} {x : ty.D} {d : DataW H}, tyB P ty t = true → DR ty x d → (d.weights P t).all (· ≤ reachBytes) = true → Szd ty x
 | .int k, t, x, d, _, _, _ => trivial
 | .bool, t, x, d, _, _, _ => trivial
 | .unit, t, x, d, _, _, _ => trivial
 | .str, t, x, d, hb, hd, h => by
   have hd' : d = .lit (.string x.data.toList) := hd
   subst hd'
   simp only [DataW.weights, List.all_cons, List.all_nil, Bool.and_true, decide_eq_true_eq] at h
   have : x.data.toList.length = x.size := rfl
   rw [this] at h
   exact h
 | .slice ty, t, x, d, hb, hd, h => by
   simp only [tyB] at hb
   split at hb
   ·rename_i e hu
    simp only [Bool.and_eq_true, decide_eq_true_eq] at hb
    obtain ⟨⟨⟨b1, b2⟩, b3⟩, b4⟩ := hb
    rcases hd with ⟨_, rfl⟩ | ⟨ds, sp, rfl, hl, hel⟩
    ·exact ⟨by simp, fun x hx => by cases hx⟩
    ·simp only [DataW.weights, hu, List.all_cons, List.all_append, Bool.and_eq_true, decide_eq_true_eq] at h
     obtain ⟨h1, h2, _⟩ := h
     refine ⟨?_, fun y hy => ?_⟩
     ·refine Nat.le_trans (Nat.mul_le_mul ?_ b4) h1
      omega
     ·obtain ⟨i, hi⟩ := List.getElem?_of_mem hy
      obtain ⟨dy, g1, g2⟩ := hel i y hi
      exact sized ty b1 g2 (Q70 h2 dy (List.mem_of_getElem? g1))
   ·cases hb
 | .prod a b, t, x, d, hb, hd, h => by
   simp only [tyB] at hb
   split at hb
   ·rename_i fs hu
    simp only [Bool.and_eq_true, decide_eq_true_eq] at hb
    obtain ⟨y, ys, rfl, h1, h2⟩ := hd
    have hb1 := hb.1
    simp only [DataW.weights, hu] at h
    generalize fs.toList = fl at hb1 h
    cases fl with
    | nil => simp [Ql] at hb1
    | cons f fl =>
      simp only [Ql, Bool.and_eq_true, decide_eq_true_eq] at hb1
      simp only [List.map_cons, DataW.weightsEach, List.all_append, Bool.and_eq_true] at h
      exact ⟨sized a hb1.1.1.2 h1 h.1, Qd6 b hb1.2 h2 h.2⟩
   ·cases hb
theorem Qd6 : ∀ (ty : Ty) {fs : List Field} {off : Nat} {x : ty.D} {ys : List (DataW H)}, Ql P ty fs off = true → DR ty x (.agg ys) → (DataW.weightsEach P (fs.map (·.type)) ys).all (· ≤ reachBytes) = true → Szd ty x
 | .unit, fs, off, x, ys, _, _, _ => trivial
 | .int _, fs, off, x, ys, hb, _, _ => trivial
 | .bool, fs, off, x, ys, hb, _, _ => trivial
 | .str, fs, off, x, ys, hb, _, _ => by simp [Ql] at hb
 | .slice _, fs, off, x, ys, hb, _, _ => by simp [Ql] at hb
 | .prod a b, fs, off, x, ys, hb, hd, h => by
   obtain ⟨y, ys', e, h1, h2⟩ := hd
   cases e
   cases fs with
   | nil => simp [Ql] at hb
   | cons f fs =>
     simp only [Ql, Bool.and_eq_true, decide_eq_true_eq] at hb
     simp only [List.map_cons, DataW.weightsEach, List.all_append, Bool.and_eq_true] at h
     exact ⟨sized a hb.1.1.2 h1 h.1, Qd6 b hb.2 h2 h.2⟩
end
end
end Go.Proofs.YtecnlienmpdlaaaGreat.PM

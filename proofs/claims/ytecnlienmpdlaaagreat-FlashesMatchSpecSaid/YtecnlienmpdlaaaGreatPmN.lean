import Derived.Test.YtecnlienmpdlaaaGreatPmI
import Derived.ChangeArms
import Derived.ChangeOld
import Derived.DataReads
set_option linter.unusedSimpArgs false
set_option linter.unusedVariables false
namespace Go.Proofs.YtecnlienmpdlaaaGreat.PM
open Go
noncomputable section
def Ty.bytes : Ty → Nat
 | .int k => k.bits / 8
 | .bool => 1
 | .str => 16
 | .slice _ => 24
 | .unit => 0
 | .prod a b => a.bytes + b.bytes
mutual
def tyB (P : Program) : Ty → Nat → Bool
 | .int k, t => match P.underlying t with
   | some (.int k') => decide (k = k')
   | _ => false
 | .bool, t => match P.underlying t with
   | some .bool => true
   | _ => false
 | .str, t => match P.underlying t with
   | some .string => true
   | _ => false
 | .slice ty, t => match P.underlying t with
   | some (.slice e) => tyB P ty e && decide (P.cellsOf e = ty.size) && decide (0 < ty.size) && decide (ty.bytes ≤ P.bytesOf e)
   | _ => false
 | .unit, t => match P.underlying t with
   | some (.struct fs) => fs.toList.isEmpty && decide (P.cellsOf t = 0)
   | _ => false
 | .prod a b, t => match P.underlying t with
   | some (.struct fs) => Ql P (.prod a b) fs.toList 0 && decide (P.cellsOf t = a.size + b.size)
   | _ => false
def Ql (P : Program) : Ty → List Field → Nat → Bool
 | .unit, [], _ => true
 | .prod a b, f :: fs, off => decide (f.offset = off) && tyB P a f.type && decide (P.cellsOf f.type = a.size) && Ql P b fs (off + a.size)
 | _, _, _ => false
end
def Wf : (t : Ty) → t.D → Prop
 | .int k, x => (Lit.int k x).wf = true
 | .bool, _ => True
 | .str, s => s.size ≤ maxLen
 | .unit, _ => True
 | .slice t, l => l.length ≤ maxLen ∧ ∀ x ∈ l, Wf t x
 | .prod a b, x => Wf a x.1 ∧ Wf b x.2
def DR {H : Type} : (t : Ty) → t.D → DataW H → Prop
 | .int k, x, d => d = .lit (.int k x)
 | .bool, x, d => d = .lit (.bool x)
 | .str, x, d => d = .lit (.string x.data.toList)
 | .unit, _, d => d = .agg []
 | .slice t, l, d => (d = .nil ∧ l = []) ∨ ∃ ds sp, d = .slice ds sp ∧ ds.length = l.length ∧ ∀ (i : Nat) (x : t.D), l[i]? = some x → ∃ y, ds[i]? = some y ∧ DR t x y
 | .prod a b, x, d => ∃ y ys, d = .agg (y :: ys) ∧ DR a x.1 y ∧ DR b x.2 (.agg ys)
section
variable {H : Type} {enc : TypeId × Value → H} {P : Program} {w : World} {spare : Nat → Bool} {held : Bool}
theorem Q13t {α : Type} {p : Nat → α → Prop} : ∀ (n : Nat), (∀ i, i < n → ∃ x, p i x) → ∃ l : List α, l.length = n ∧ ∀ (i : Nat) (x : α), l[i]? = some x → p i x
 | 0, _ => ⟨[], rfl, fun i x h => by simp at h⟩
 | n + 1, h => by
   obtain ⟨l, h1, h2⟩ := Q13t n fun i hi => h i (by omega)
   obtain ⟨x, hx⟩ := h n (by omega)
   refine ⟨l ++ [x], by simp [h1], fun i y hy => ?_⟩
   by_cases hi : i < l.length
   ·rw [List.getElem?_append_left hi] at hy; exact h2 i y hy
   ·rw [List.getElem?_append_right (by omega)] at hy
    have h0 : i - l.length = 0 := by
     have := (List.getElem?_eq_some_iff.1 hy).1
     simp at this; omega
    rw [h0] at hy
    simp at hy
    subst hy
    have : i = n := by omega
    rw [this]; exact hx
theorem Q5n {fuel : Nat} {cs : List Value}
  (ih : ∀ {a : Ty} {t : Nat} {cs : List Value} {x : DataW H × List MemPlace}, tyB P a t = true → DataW.trod enc P w 0 spare held fuel t cs = some x → ∃ v : a.D, RD w (· < w.heap.size) a v cs ∧ Wf a v ∧ DR a v x.1) :
  ∀ (ty : Ty) (fs : List Field) (off : Nat) (xs : List (DataW H × List MemPlace)), Ql P ty fs off = true → off + ty.size = cs.length → xs.length = fs.length →
    (∀ (i : Nat) (f : Field), fs[i]? = some f → DataW.trod enc P w 0 spare held fuel f.type ((cs.drop f.offset).take (P.cellsOf f.type)) = xs[i]?) →
    ∃ v : ty.D, RD w (· < w.heap.size) ty v (cs.drop off) ∧ Wf ty v ∧ DR ty v (.agg (xs.map (·.1)))
 | .unit, [], off, xs, _, hl, hx, _ => by
   have : xs = [] := List.length_eq_zero_iff.1 (by simpa using hx)
   subst this
   have hl' : off = cs.length := by simpa [Ty.size] using hl
   refine ⟨(), ?_, trivial, rfl⟩
   rw [hl']; exact List.drop_length
 | .prod a b, f :: fs, off, xs, h, hl, hx, hr => by
   simp only [Ql, Bool.and_eq_true, decide_eq_true_eq] at h
   obtain ⟨⟨⟨h1, h2⟩, h3⟩, h4⟩ := h
   simp only [Ty.size] at hl
   cases xs with
   | nil => simp at hx
   | cons x xs =>
     have h0 := hr 0 f rfl
     rw [h1, h3] at h0
     obtain ⟨v1, g1, g2, g3⟩ := ih h2 h0
     obtain ⟨v2, e1, e2, e3⟩ := Q5n (cs := cs) ih b fs (off + a.size) xs h4 (by omega) (by simpa using hx) fun i g hi => by simpa using hr (i + 1) g (by simpa using hi)
     refine ⟨(v1, v2), ⟨_, _, ?_, g1, e1⟩, ⟨g2, e2⟩, x.1, _, rfl, g3, e3⟩
     rw [← List.drop_drop]
     exact (List.take_append_drop _ _).symm
 | .unit, _ :: _, _, _, h, _, _, _ => by simp [Ql] at h
 | .prod _ _, [], _, _, h, _, _, _ => by simp [Ql] at h
 | .int _, _, _, _, h, _, _, _ => by simp [Ql] at h
 | .bool, _, _, _, h, _, _, _ => by simp [Ql] at h
 | .str, _, _, _, h, _, _, _ => by simp [Ql] at h
 | .slice _, _, _, _, h, _, _, _ => by simp [Ql] at h
theorem opens : ∀ (fuel : Nat) {ty : Ty} {t : Nat} {cs : List Value} {x : DataW H × List MemPlace}, tyB P ty t = true → DataW.trod enc P w 0 spare held fuel t cs = some x →
  ∃ v : ty.D, RD w (· < w.heap.size) ty v cs ∧ Wf ty v ∧ DR ty v x.1
 | 0, ty, t, cs, x, _, h => by simp [DataW.trod] at h
 | fuel + 1, ty, t, cs, x, hb, h => by
   cases ty with
   | int k =>
     simp only [tyB] at hb
     split at hb
     ·rename_i k' hu
      have hk : k = k' := of_decide_eq_true hb
      subst hk
      obtain ⟨n, rfl, rfl, hw⟩ := DataW.trod_int hu h
      exact ⟨n, rfl, hw, rfl⟩
     ·cases hb
   | bool =>
     simp only [tyB] at hb
     split at hb
     ·rename_i hu
      obtain ⟨b, rfl, rfl⟩ := DataW.trod_bool hu h
      exact ⟨b, rfl, trivial, rfl⟩
     ·cases hb
   | str =>
     simp only [tyB] at hb
     split at hb
     ·rename_i hu
      obtain ⟨s, rfl, rfl, hs⟩ := DataW.trod_string hu h
      exact ⟨s, rfl, hs, rfl⟩
     ·cases hb
   | slice ty =>
     simp only [tyB] at hb
     split at hb
     ·rename_i e hu
      simp only [Bool.and_eq_true, decide_eq_true_eq] at hb
      obtain ⟨⟨⟨b1, b2⟩, b3⟩, b4⟩ := hb
      rcases DataW.trod_slice hu h with ⟨rfl, rfl⟩ | ⟨a, len, cap, elems, rest, n, hn, rfl, rfl, _, hl, hm, hlen, hel, _⟩
      ·exact ⟨[], ⟨none, 0, rfl, Nat.le_refl _, fun h => absurd rfl h⟩, ⟨Nat.zero_le _, fun x hx => by cases hx⟩, .inl ⟨rfl, rfl⟩⟩
      ·have hn' : fuel = n := by omega
       subst hn'
       obtain ⟨l, l1, l2⟩ := Q13t (p := fun i (v : ty.D) => (∃ es, RD w (· < w.heap.size) ty v es ∧ Q1e w (a.add (i * ty.size)) es) ∧ a.block < w.heap.size ∧ Wf ty v ∧ ∃ y, (elems.map (·.1))[i]? = some y ∧ DR ty v y) len (fun i hi => by
        have he := hel i hi
        rw [List.getElem?_eq_getElem (by omega), b2] at he
        obtain ⟨es, e1, e2⟩ := Option.bind_eq_some_iff.1 he
        obtain ⟨v, g1, g2, g3⟩ := opens fuel b1 e2
        obtain ⟨_, c1, c2⟩ := World.cells?_some e1
        have hblk := World.cells?_block e1 b3
        rw [Q4e] at hblk
        refine ⟨v, ⟨es, g1, fun j u hj => ?_⟩, hblk, g2, _, by rw [List.getElem?_map, List.getElem?_eq_getElem (by omega)]; rfl, g3⟩
        rw [c2 j (by have := (List.getElem?_eq_some_iff.1 hj).1; omega)]
        exact hj)
       refine ⟨l, ⟨some a, cap, by rw [l1], by rw [l1]; exact hl, fun hne => ?_⟩, ⟨by rw [l1]; omega, fun x hx => ?_⟩, .inr ⟨_, _, rfl, by simp [l1, hlen], fun i x hx => (l2 i x hx).2.2.2⟩⟩
       ·obtain ⟨x0, hx0⟩ := List.exists_mem_of_ne_nil l hne
        obtain ⟨i0, hi0⟩ := List.getElem?_of_mem hx0
        exact ⟨a, rfl, (l2 i0 x0 hi0).2.1, fun i x hx => (l2 i x hx).1⟩
       ·obtain ⟨i, hi⟩ := List.getElem?_of_mem hx
        exact (l2 i x hi).2.2.1
     ·cases hb
   | unit =>
     simp only [tyB] at hb
     split at hb
     ·rename_i fs hu
      simp only [Bool.and_eq_true, decide_eq_true_eq] at hb
      obtain ⟨xs, n, hn, rfl, hl, hx, hr⟩ := DataW.trod_struct hu h
      have hn' : fuel = n := by omega
      subst hn'
      have he : fs.toList = [] := by simpa using hb.1
      have := Q5n (enc := enc) (fuel := fuel) (cs := cs) (fun h1 h2 => opens fuel h1 h2) .unit fs.toList 0 xs (by rw [he]; simp [Ql]) (by simp [Ty.size]; omega) (by simpa using hx) (fun i f hf => by simpa using hr i f (by simpa using hf))
      simpa using this
     ·cases hb
   | prod a b =>
     simp only [tyB] at hb
     split at hb
     ·rename_i fs hu
      simp only [Bool.and_eq_true, decide_eq_true_eq] at hb
      obtain ⟨xs, n, hn, rfl, hl, hx, hr⟩ := DataW.trod_struct hu h
      have hn' : fuel = n := by omega
      subst hn'
      have := Q5n (enc := enc) (fuel := fuel) (cs := cs) (fun h1 h2 => opens fuel h1 h2) (.prod a b) fs.toList 0 xs hb.1 (by simp only [Ty.size]; omega) (by simpa using hx) (fun i f hf => by simpa using hr i f (by simpa using hf))
      simpa using this
     ·cases hb
end
def argPV : (t : Ty) → t.D → PV
 | .int k, x => mi k x
 | .bool, x => mb x
 | .str, x => .val [] .str x
 | .slice t, l => .val [(0, 0)] (.slice t) l
 | .unit, x => .agg []
 | .prod a b, x => .agg (Q1i [(0, 0)] (.prod a b) x)
theorem Q15t {w : World} {pl : Pl} (hL : ∀ b, pl.Z b → pl.L b) {b : Nat} (h : b < w.heap.size) : Safe w pl (rowsOf []) [(0, 0)] b :=
 ⟨h, fun hz => ⟨hL b hz, _, List.mem_cons_self, rfl⟩, fun r s o hr _ _ => by rw [Q1b] at hr; split at hr <;> simp at hr⟩
theorem Qyw {w : World} {pl : Pl} (hL : ∀ b, pl.Z b → pl.L b) {ty : Ty} {v : ty.D} {u : Value} (h : RD w (· < w.heap.size) ty v u.cells.toList) (hu : (∀ a b, ty ≠ .prod a b) → ty ≠ .unit → u.oneCell' = true) (hagg : ((∃ a b, ty = .prod a b) ∨ ty = .unit) → ∃ cs, u = .agg cs) :
  VR w pl (rowsOf []) (argPV ty v) u ∧ Men (rowsOf []) (argPV ty v) ∧ okPV (rowsOf []) (argPV ty v) = true := by
 have h' := Qn (w' := w) (S' := Safe w pl (rowsOf []) [(0, 0)]) (fun b hb => Q15t (pl := pl) hL hb) (fun _ _ => rfl) h
 cases ty with
 | int k =>
   rw [Q4g (hu (by simp) (by simp))] at h'
   exact ⟨h', Qa _, rfl⟩
 | bool =>
   rw [Q4g (hu (by simp) (by simp))] at h'
   exact ⟨h', Qa _, rfl⟩
 | str =>
   rw [Q4g (hu (by simp) (by simp))] at h'
   exact ⟨h', Qa _, rfl⟩
 | slice t =>
   rw [Q4g (hu (by simp) (by simp))] at h'
   exact ⟨h', fun q hq => by simp at hq; subst hq; exact .inl rfl, rfl⟩
 | unit =>
   obtain ⟨cs, rfl⟩ := hagg (.inr rfl)
   have h2 : cs.toList = [] := h'
   exact ⟨⟨cs, rfl, h2, by rw [h2]; intro u hu; cases hu⟩, trivial, rfl⟩
 | prod a b =>
   obtain ⟨cs, rfl⟩ := hagg (.inl ⟨a, b, rfl⟩)
   refine ⟨⟨cs, rfl, Q6u h', Q9o h⟩, Q7b (fun q hq => by simp at hq; subst hq; exact .inl rfl), ?_⟩
   have ok : ∀ {t : Ty} {x : t.D}, okPV.okAll (rowsOf []) (Q1i [(0, 0)] t x) = true := by
    intro t
    have app : ∀ {l m : List PV}, okPV.okAll (rowsOf []) l = true → okPV.okAll (rowsOf []) m = true → okPV.okAll (rowsOf []) (l ++ m) = true := by
     intro l
     induction l with
     | nil => intro m _ h; exact h
     | cons x l ih => intro m h1 h2; simp only [List.cons_append, okPV.okAll, Bool.and_eq_true] at h1 ⊢; exact ⟨h1.1, ih h1.2 h2⟩
    induction t with
    | int k => intro x; rfl
    | bool => intro x; rfl
    | str => intro x; rfl
    | unit => intro x; rfl
    | slice t _ => intro x; rfl
    | prod s t ih1 ih2 => intro x; exact app ih1 ih2
   exact ok
theorem Q13r {P : Program} {T : TT} (hT : TTok P T) {F : Nat → Option PFn} (hF : Fok P F) {k f : Nat} {args : List PV} {us : List Value} {W : World} {b : Bool}
  (h : callC (R := Bool) T F k f args [] (fun res rows => match res, rows with | [.val _ .bool x], [] => some x | _, _ => none) = some b)
  (hv : ∀ pl : Pl, (∀ b, pl.Z b → pl.L b) → VRs W pl (rowsOf []) args us) (hm : Mens (rowsOf []) args) (hok : okPV.okAll (rowsOf []) args = true) :
  Calls P f us.toArray W fun e W' => e = .returned (.bool b) ∧ RowKit.Below W.heap.size W W' := by
 obtain ⟨_, hg⟩ := Qbh hT hF k f args [] _ b h
 have R0 : Rel W.heap.size (fun _ => False) ⟨fun _ => none, fun b => b < W.heap.size, fun _ => True, fun _ _ => False⟩ ⟨fun _ => none, rowsOf []⟩ ⟨#[], []⟩ W := by
  have no : ∀ {r : Nat} {s : RowS}, ¬ rowsOf [] r = some s := fun {r s} h => by rw [Q1b] at h; split at h <;> simp at h
  exact ⟨fun s v hv => (by cases hv), fun r s hr => absurd hr no, Q11 [], fun r r' s s' b o o' hr => absurd hr no, fun r s b o hr => absurd hr no, rfl⟩
 have := hg ⟨W.heap.size, fun _ => False, fun b => b < W.heap.size, fun _ => True, 0, fun _ => none, W⟩ ⟨fun _ => none, fun b => b < W.heap.size, fun _ => True, fun _ _ => False⟩ us ⟨fun b hb => hb, rfl⟩ rfl rfl rfl (fun _ _ _ => rfl) R0 hm hok (hv _ fun _ _ => trivial)
 refine Q1x this fun e W' hpost => ?_
 obtain ⟨res, rout, vs, pl', hres, rfl, I, _, _, hvr⟩ := hpost
 split at hres
 ·rename_i p x
  obtain rfl := oi hres
  obtain ⟨u, us', rfl, h1, h2⟩ := hvr
  have h2' : us' = [] := h2
  subst h2'
  refine ⟨by rw [show tupVal [u] = u from rfl, isBool h1], I.quiet.os, I.quiet.tape, I.quiet.output, I.size, fun k hk => I.keep k hk (fun h => h)⟩
 ·cases hres
end
end Go.Proofs.YtecnlienmpdlaaaGreat.PM

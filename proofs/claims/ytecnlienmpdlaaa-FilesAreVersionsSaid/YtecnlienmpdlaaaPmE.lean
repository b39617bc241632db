/- The small machine PM: code whose cut blocks are summed up. -/
import Derived.Test.YtecnlienmpdlaaaPmQk
set_option linter.unusedSimpArgs false
set_option linter.unusedVariables false
namespace Go.Proofs.Ytecnlienmpdlaaa.PM
open Go

noncomputable def sh (sp : List (Nat × Mode)) (vs : List PV) (rs : List RowS) : St := ⟨putSlots sp vs (fun _ => none), rowsOf rs⟩

/-- As norm, but the parts by themselves. -/
noncomputable def normL (n key : Nat) (spec : List (Nat × Mode)) (st : St) : Option (List PV × List RowS) := match takeSlots st spec with
  | some vs => match coerces (spec.map (·.2)) st.rows key vs with
    | some (vs', rows, _) => match pack false rows n vs' with
      | some (ws, rs, _) => some (ws, rs)
      | none => none
    | none => none
  | none => none

theorem norm_eq (n key : Nat) (spec : List (Nat × Mode)) (st : St) : norm n key spec st = (normL n key spec st).map fun x => sh spec x.1 x.2 := by
  unfold norm normL
  cases takeSlots st spec with
  | none => rfl
  | some vs =>
    simp only
    cases coerces (spec.map (·.2)) st.rows key vs with
    | none => rfl
    | some x =>
      obtain ⟨vs', rows, k⟩ := x
      simp only
      cases pack false rows n vs' with
      | none => rfl
      | some y => rfl

section
variable {R : Type} (T : TT) (an : Ann) (modes : Nat → List Mode) (n k nt : Nat)
  (callK : Nat → List PV → List RowS → (List PV → List RowS → Option R) → Option R)
  (L : Nat → List PV → List RowS → (St → Option R) → (Nat → St → Option R) → Option R)

noncomputable def execS (Rt : St → Option R) : Code → St → (St → Option R) → (Nat → St → Option R) → Option R
  | .skip, st, N, _ => N st
  | .region id ops draw, st, N, _ => if draw then (match findN an.draws id with
      | some fps => if drawOk ops fps id then entered n st (findN an.norms id) ((id + 1) * 16384 + 16000) fun st' => doDrawQ T modes nt callK ops fps id (List.range ops.size) st' N else none
      | none => none) else
      entered n st (findN an.norms id) ((id + 1) * 16384 + 16000) fun st' => doOpsQ T modes nt callK ops id 0 ops.toList st' N
  | .seq a b, st, N, X => execS Rt a st (fun st' => execS Rt b st' N X) X
  | .cond c a b, st, N, X => match findN an.ifs (condKey a b) with
    | some sp => match normL n ((condKey a b + 1) * 16384 + 16320) sp st with
      | some x => L (condKey a b + 1000000) x.1 x.2 N X
      | none => none
    | none => match look st c with
      | some (.val _ .bool x) => bif x then execS Rt a st (fiN an n a b N) (condX an n a b X) else execS Rt b st (fiN an n a b N) (condX an n a b X)
      | _ => none
  | .block id b, st, N, X => match findN an.cuts id with
    | some sp => match normL n ((id + 1) * 16384 + 16300) sp st with
      | some x => L id x.1 x.2 N X
      | none => none
    | none => execS Rt b st (leave an n id N) (outX an n id N X)
  | .loop b, st, _, X => atHead an n b st fun st' => iter (atHead an n b) k (fun s N' => execS Rt b s N' X) st'
  | .exit id, st, _, X => X id st
  | .ret, st, _, _ => Rt st
  | _, _, _, _ => none

/-- The sums of the cut blocks are right. -/
def CutsOk (Rt : St → Option R) : Code → Prop
  | .seq a b => CutsOk Rt a ∧ CutsOk Rt b
  | .cond c a b => match findN an.ifs (condKey a b) with
    | some sp => ∀ ws rs N X, L (condKey a b + 1000000) ws rs N X = (match look (sh sp ws rs) c with
      | some (.val _ .bool x) => bif x then exec T an modes n k nt callK Rt a (sh sp ws rs) (fiN an n a b N) (condX an n a b X) else exec T an modes n k nt callK Rt b (sh sp ws rs) (fiN an n a b N) (condX an n a b X)
      | _ => none)
    | none => CutsOk Rt a ∧ CutsOk Rt b
  | .block id b => match findN an.cuts id with
    | some sp => ∀ ws rs N X, L id ws rs N X = exec T an modes n k nt callK Rt b (sh sp ws rs) (leave an n id N) (outX an n id N X)
    | none => CutsOk Rt b
  | .loop b => CutsOk Rt b
  | _ => True

/-- The cut blocks of some code, the outermost ones. -/
noncomputable def cutBlocks : Code → List (Nat × List (Nat × Mode) × Code)
  | .seq a b => cutBlocks a ++ cutBlocks b
  | .cond c a b => match findN an.ifs (condKey a b) with
    | some sp => [(condKey a b + 1000000, sp, .cond c a b)]
    | none => cutBlocks a ++ cutBlocks b
  | .block id b => match findN an.cuts id with
    | some sp => [(id, sp, .block id b)]
    | none => cutBlocks b
  | .loop b => cutBlocks b
  | _ => []
/-- What a cut piece of code does, entered as it is. -/
noncomputable def inner (Rt : St → Option R) : Code → St → (St → Option R) → (Nat → St → Option R) → Option R
  | .cond c a b, st, N, X => match look st c with
    | some (.val _ .bool x) => bif x then exec T an modes n k nt callK Rt a st (fiN an n a b N) (condX an n a b X) else exec T an modes n k nt callK Rt b st (fiN an n a b N) (condX an n a b X)
    | _ => none
  | .block id b, st, N, X => exec T an modes n k nt callK Rt b st (leave an n id N) (outX an n id N X)
  | _, _, _, _ => none
def CutsOkL (Rt : St → Option R) : List (Nat × List (Nat × Mode) × Code) → Prop
  | [] => True
  | (id, sp, b) :: l => (∀ ws rs N X, L id ws rs N X = inner T an modes n k nt callK Rt b (sh sp ws rs) N X) ∧ CutsOkL Rt l

theorem cutsOk_append {Rt : St → Option R} : ∀ {l m : List (Nat × List (Nat × Mode) × Code)}, CutsOkL T an modes n k nt callK L Rt (l ++ m) → CutsOkL T an modes n k nt callK L Rt l ∧ CutsOkL T an modes n k nt callK L Rt m
  | [], m, h => ⟨trivial, h⟩
  | (id, sp, b) :: l, m, h => by
    obtain ⟨h1, h2⟩ := cutsOk_append (l := l) h.2
    exact ⟨⟨h.1, h1⟩, h2⟩

theorem cuts_of {Rt : St → Option R} : ∀ (c : Code) {l : List (Nat × List (Nat × Mode) × Code)}, cutBlocks an c = l → CutsOkL T an modes n k nt callK L Rt l → CutsOk T an modes n k nt callK L Rt c := by
  intro c
  induction c with
  | seq a b iha ihb =>
    intro l e h
    subst e
    obtain ⟨h1, h2⟩ := cutsOk_append (T := T) (an := an) (modes := modes) (n := n) (k := k) (nt := nt) (callK := callK) (L := L) h
    exact ⟨iha rfl h1, ihb rfl h2⟩
  | cond c a b iha ihb =>
    intro l e h
    simp only [cutBlocks] at e
    simp only [CutsOk]
    cases hs : findN an.ifs (condKey a b) with
    | some sp =>
      rw [hs] at e
      simp only at e ⊢
      subst e
      exact h.1
    | none =>
      rw [hs] at e
      simp only at e ⊢
      subst e
      obtain ⟨h1, h2⟩ := cutsOk_append (T := T) (an := an) (modes := modes) (n := n) (k := k) (nt := nt) (callK := callK) (L := L) h
      exact ⟨iha rfl h1, ihb rfl h2⟩
  | block id b ih =>
    intro l e h
    simp only [cutBlocks] at e
    simp only [CutsOk]
    cases hs : findN an.cuts id with
    | some sp =>
      rw [hs] at e
      simp only at e ⊢
      subst e
      exact h.1
    | none =>
      rw [hs] at e
      exact ih e h
  | loop b ih => intro l e h; exact ih e h
  | _ => intros; trivial

theorem execS_eq {Rt : St → Option R} : ∀ (c : Code), CutsOk T an modes n k nt callK L Rt c → ∀ (st : St) (N : St → Option R) (X : Nat → St → Option R), execS T an modes n k nt callK L Rt c st N X = exec T an modes n k nt callK Rt c st N X := by
  intro c
  induction c with
  | seq a b iha ihb =>
    intro h st N X
    simp only [execS, exec]
    rw [iha h.1]
    congr 1
    funext st'
    exact ihb h.2 st' N X
  | cond c a b iha ihb =>
    intro h st N X
    simp only [execS, exec, entered]
    simp only [CutsOk] at h
    cases hs : findN an.ifs (condKey a b) with
    | some sp =>
      rw [hs] at h
      simp only at h ⊢
      rw [norm_eq]
      cases normL n ((condKey a b + 1) * 16384 + 16320) sp st with
      | none => rfl
      | some x => exact h x.1 x.2 N X
    | none =>
      rw [hs] at h
      simp only at h ⊢
      simp only [iha h.1, ihb h.2]
      generalize look st c = o
      cases o with
      | none => rfl
      | some v => cases v with
        | val p t x => cases t <;> rfl
        | _ => rfl
  | block id b ih =>
    intro h st N X
    simp only [execS, exec, entered]
    simp only [CutsOk] at h
    cases hs : findN an.cuts id with
    | some sp =>
      rw [hs] at h
      simp only at h ⊢
      rw [norm_eq]
      cases normL n ((id + 1) * 16384 + 16300) sp st with
      | none => rfl
      | some x => exact h x.1 x.2 N X
    | none =>
      rw [hs] at h
      exact ih h st _ _
  | loop b ih =>
    intro h st N X
    simp only [execS, exec]
    congr 1
    funext st'
    congr 1
    funext s N'
    exact ih h s N' X
  | region id ops draw => intro h st N X; simp only [execS, exec, doDrawQ_eq, doOpsQ_eq]; rfl
  | skip => intro h st N X; rfl
  | exit id => intro h st N X; rfl
  | ret => intro h st N X; rfl
  | _ => intros; rfl

/-- As inner, over the sums of what lies within. -/
noncomputable def innerS (Rt : St → Option R) : Code → St → (St → Option R) → (Nat → St → Option R) → Option R
  | .cond c a b, st, N, X => match look st c with
    | some (.val _ .bool x) => bif x then execS T an modes n k nt callK L Rt a st (fiN an n a b N) (condX an n a b X) else execS T an modes n k nt callK L Rt b st (fiN an n a b N) (condX an n a b X)
    | _ => none
  | .block id b, st, N, X => execS T an modes n k nt callK L Rt b st (leave an n id N) (outX an n id N X)
  | _, _, _, _ => none
noncomputable def cutsIn : Code → List (Nat × List (Nat × Mode) × Code)
  | .cond _ a b => cutBlocks an a ++ cutBlocks an b
  | .block _ b => cutBlocks an b
  | _ => []
theorem innerS_eq {Rt : St → Option R} (c : Code) {l : List (Nat × List (Nat × Mode) × Code)} (e : cutsIn an c = l) (h : CutsOkL T an modes n k nt callK L Rt l) (st : St) (N : St → Option R) (X : Nat → St → Option R) :
    innerS T an modes n k nt callK L Rt c st N X = inner T an modes n k nt callK Rt c st N X := by
  subst e
  cases c with
  | cond c a b =>
    obtain ⟨h1, h2⟩ := cutsOk_append (T := T) (an := an) (modes := modes) (n := n) (k := k) (nt := nt) (callK := callK) (L := L) h
    simp only [innerS, inner, execS_eq T an modes n k nt callK L a (cuts_of T an modes n k nt callK L a rfl h1), execS_eq T an modes n k nt callK L b (cuts_of T an modes n k nt callK L b rfl h2)]
  | block id b => exact execS_eq T an modes n k nt callK L b (cuts_of T an modes n k nt callK L b rfl h) st _ _
  | _ => rfl
end
theorem pick_eq {α : Type} {g m : Nat} {x y z : α} (h1 : g = m → x = z) (h2 : y = z) : (bif g == m then x else y) = z := by
  cases h : (g == m) with
  | true => exact h1 (by simpa using h)
  | false => exact h2
end Go.Proofs.Ytecnlienmpdlaaa.PM

import Derived.Test.YtecnlienmpdlaaaGreatPmQk
set_option linter.unusedSimpArgs false
set_option linter.unusedVariables false
namespace Go.Proofs.YtecnlienmpdlaaaGreat.PM
open Go
noncomputable section
def sh (sp : List (Nat × Mode)) (vs : List PV) (rs : List RowS) : St := ⟨Q8j sp vs (fun _ => none), rowsOf rs⟩
def normL (n key : Nat) (spec : List (Nat × Mode)) (st : St) : Option (List PV × List RowS) := match Q3s st spec with
 | some vs => match Qbj (spec.map (·.2)) st.rows key vs with
   | some (vs', rows, _) => match pack false rows n vs' with
     | some (ws, rs, _) => some (ws, rs)
     | none => none
   | none => none
 | none => none
theorem Q145 (n key : Nat) (spec : List (Nat × Mode)) (st : St) : norm n key spec st = (normL n key spec st).map fun x => sh spec x.1 x.2 := by
 unfold norm normL
 cases Q3s st spec with
 | none => rfl
 | some vs =>
   simp only
   cases Qbj (spec.map (·.2)) st.rows key vs with
   | none => rfl
   | some x =>
     obtain ⟨vs', rows, k⟩ := x
     simp only
     cases pack false rows n vs' with
     | none => rfl
     | some y => rfl
section
variable {R : Type} (T : TT) (an : Ann) (modes : Nat → List Mode) (n k nt : Nat)
 (callK : Nat → List PV → List RowS → (List PV → List RowS → Oq R) → Oq R)
 (L : Nat → List PV → List RowS → (St → Oq R) → (Nat → St → Oq R) → Oq R)
def execS (Rt : St → Oq R) : Code → St → (St → Oq R) → (Nat → St → Oq R) → Oq R
 | .skip, st, N, _ => N st
 | .region id ops draw, st, N, _ => if draw then (match findN an.draws id with
   | some fps => if drawOk ops fps id then Q1d n st (findN an.norms id) ((id + 1) * 16384 + 16000) fun st' => Qhw T modes nt callK ops fps id (List.range ops.size) st' N else none
   | none => none) else
   Q1d n st (findN an.norms id) ((id + 1) * 16384 + 16000) fun st' => doOpsQ T modes nt callK ops id 0 ops.toList st' N
 | .seq a b, st, N, X => execS Rt a st (fun st' => execS Rt b st' N X) X
 | .cond c a b, st, N, X => match findN an.ifs (Q1h a b) with
   | some sp => match normL n ((Q1h a b + 1) * 16384 + 16320) sp st with
     | some x => L (Q1h a b + 1000000) x.1 x.2 N X
     | none => none
   | none => match look st c with
     | some (.val _ .bool x) => bif x then execS Rt a st (fiN an n a b N) (condX an n a b X) else execS Rt b st (fiN an n a b N) (condX an n a b X)
     | _ => none
 | .block id b, st, N, X => match findN an.cuts id with
   | some sp => match normL n ((id + 1) * 16384 + 16300) sp st with
     | some x => L id x.1 x.2 N X
     | none => none
   | none => execS Rt b st (leave an n id N) (outX an n id N X)
 | .loop b, st, _, X => atHead an n b st fun st' => iter (atHead an n b) k (fun s N' => execS Rt b s N' X) st'
 | .exit id, st, _, X => X id st
 | .ret, st, _, _ => Rt st
 | _, _, _, _ => none
def CutsOk (Rt : St → Oq R) : Code → Prop
 | .seq a b => CutsOk Rt a ∧ CutsOk Rt b
 | .cond c a b => match findN an.ifs (Q1h a b) with
   | some sp => ∀ ws rs N X, L (Q1h a b + 1000000) ws rs N X = (match look (sh sp ws rs) c with
     | some (.val _ .bool x) => bif x then exec T an modes n k nt callK Rt a (sh sp ws rs) (fiN an n a b N) (condX an n a b X) else exec T an modes n k nt callK Rt b (sh sp ws rs) (fiN an n a b N) (condX an n a b X)
     | _ => none)
   | none => CutsOk Rt a ∧ CutsOk Rt b
 | .block id b => match findN an.cuts id with
   | some sp => ∀ ws rs N X, L id ws rs N X = exec T an modes n k nt callK Rt b (sh sp ws rs) (leave an n id N) (outX an n id N X)
   | none => CutsOk Rt b
 | .loop b => CutsOk Rt b
 | _ => True
def Q12 : Code → List (Nat × List (Nat × Mode) × Code)
 | .seq a b => Q12 a ++ Q12 b
 | .cond c a b => match findN an.ifs (Q1h a b) with
   | some sp => [(Q1h a b + 1000000, sp, .cond c a b)]
   | none => Q12 a ++ Q12 b
 | .block id b => match findN an.cuts id with
   | some sp => [(id, sp, .block id b)]
   | none => Q12 b
 | .loop b => Q12 b
 | _ => []
def inner (Rt : St → Oq R) : Code → St → (St → Oq R) → (Nat → St → Oq R) → Oq R
 | .cond c a b, st, N, X => match look st c with
   | some (.val _ .bool x) => bif x then exec T an modes n k nt callK Rt a st (fiN an n a b N) (condX an n a b X) else exec T an modes n k nt callK Rt b st (fiN an n a b N) (condX an n a b X)
   | _ => none
 | .block id b, st, N, X => exec T an modes n k nt callK Rt b st (leave an n id N) (outX an n id N X)
 | _, _, _, _ => none
def Q4b (Rt : St → Oq R) : List (Nat × List (Nat × Mode) × Code) → Prop
 | [] => True
 | (id, sp, b) :: l => (∀ ws rs N X, L id ws rs N X = inner T an modes n k nt callK Rt b (sh sp ws rs) N X) ∧ Q4b Rt l
theorem Q2t {Rt : St → Oq R} : ∀ {l m : List (Nat × List (Nat × Mode) × Code)}, Q4b T an modes n k nt callK L Rt (l ++ m) → Q4b T an modes n k nt callK L Rt l ∧ Q4b T an modes n k nt callK L Rt m
 | [], m, h => ⟨trivial, h⟩
 | (id, sp, b) :: l, m, h => by
   obtain ⟨h1, h2⟩ := Q2t (l := l) h.2
   exact ⟨⟨h.1, h1⟩, h2⟩
theorem Qb {Rt : St → Oq R} : ∀ (c : Code) {l : List (Nat × List (Nat × Mode) × Code)}, Q12 an c = l → Q4b T an modes n k nt callK L Rt l → CutsOk T an modes n k nt callK L Rt c := by
 intro c
 induction c with
 | seq a b iha ihb =>
   intro l e h
   subst e
   obtain ⟨h1, h2⟩ := Q2t (T := T) (an := an) (modes := modes) (n := n) (k := k) (nt := nt) (callK := callK) (L := L) h
   exact ⟨iha rfl h1, ihb rfl h2⟩
 | cond c a b iha ihb =>
   intro l e h
   simp only [Q12] at e
   simp only [CutsOk]
   cases hs : findN an.ifs (Q1h a b) with
   | some sp =>
     rw [hs] at e
     simp only at e ⊢
     subst e
     exact h.1
   | none =>
     rw [hs] at e
     simp only at e ⊢
     subst e
     obtain ⟨h1, h2⟩ := Q2t (T := T) (an := an) (modes := modes) (n := n) (k := k) (nt := nt) (callK := callK) (L := L) h
     exact ⟨iha rfl h1, ihb rfl h2⟩
 | block id b ih =>
   intro l e h
   simp only [Q12] at e
   simp only [CutsOk]
   cases hs : findN an.cuts id with
   | some sp =>
     rw [hs] at e
     simp only at e ⊢
     subst e
     exact h.1
   | none =>
     rw [hs] at e
     exact ih e h
 | loop b ih => intro l e h; exact ih e h
 | _ => intros; trivial
theorem Q7 {Rt : St → Oq R} : ∀ (c : Code), CutsOk T an modes n k nt callK L Rt c → ∀ (st : St) (N : St → Oq R) (X : Nat → St → Oq R), execS T an modes n k nt callK L Rt c st N X = exec T an modes n k nt callK Rt c st N X := by
 intro c
 induction c with
 | seq a b iha ihb =>
   intro h st N X
   simp only [execS, exec]
   rw [iha h.1]
   congr 1
   funext st'
   exact ihb h.2 st' N X
 | cond c a b iha ihb =>
   intro h st N X
   simp only [execS, exec, Q1d]
   simp only [CutsOk] at h
   cases hs : findN an.ifs (Q1h a b) with
   | some sp =>
     rw [hs] at h
     simp only at h ⊢
     rw [Q145]
     cases normL n ((Q1h a b + 1) * 16384 + 16320) sp st with
     | none => rfl
     | some x => exact h x.1 x.2 N X
   | none =>
     rw [hs] at h
     simp only at h ⊢
     simp only [iha h.1, ihb h.2]
     generalize look st c = o
     cases o with
     | none => rfl
     | some v => cases v with
       | val p t x => cases t <;> rfl
       | _ => rfl
 | block id b ih =>
   intro h st N X
   simp only [execS, exec, Q1d]
   simp only [CutsOk] at h
   cases hs : findN an.cuts id with
   | some sp =>
     rw [hs] at h
     simp only at h ⊢
     rw [Q145]
     cases normL n ((id + 1) * 16384 + 16300) sp st with
     | none => rfl
     | some x => exact h x.1 x.2 N X
   | none =>
     rw [hs] at h
     exact ih h st _ _
 | loop b ih =>
   intro h st N X
   simp only [execS, exec]
   congr 1
   funext st'
   congr 1
   funext s N'
   exact ih h s N' X
 | region id ops draw => intro h st N X; simp only [execS, exec, Qe5, Qka]; rfl
 | skip => intro h st N X; rfl
 | exit id => intro h st N X; rfl
 | ret => intro h st N X; rfl
 | _ => intros; rfl
def innerS (Rt : St → Oq R) : Code → St → (St → Oq R) → (Nat → St → Oq R) → Oq R
 | .cond c a b, st, N, X => match look st c with
   | some (.val _ .bool x) => bif x then execS T an modes n k nt callK L Rt a st (fiN an n a b N) (condX an n a b X) else execS T an modes n k nt callK L Rt b st (fiN an n a b N) (condX an n a b X)
   | _ => none
 | .block id b, st, N, X => execS T an modes n k nt callK L Rt b st (leave an n id N) (outX an n id N X)
 | _, _, _, _ => none
def cutsIn : Code → List (Nat × List (Nat × Mode) × Code)
 | .cond _ a b => Q12 an a ++ Q12 an b
 | .block _ b => Q12 an b
 | _ => []
theorem Q13i {Rt : St → Oq R} (c : Code) {l : List (Nat × List (Nat × Mode) × Code)} (e : cutsIn an c = l) (h : Q4b T an modes n k nt callK L Rt l) (st : St) (N : St → Oq R) (X : Nat → St → Oq R) :
  innerS T an modes n k nt callK L Rt c st N X = inner T an modes n k nt callK Rt c st N X := by
 subst e
 cases c with
 | cond c a b =>
   obtain ⟨h1, h2⟩ := Q2t (T := T) (an := an) (modes := modes) (n := n) (k := k) (nt := nt) (callK := callK) (L := L) h
   simp only [innerS, inner, Q7 T an modes n k nt callK L a (Qb T an modes n k nt callK L a rfl h1), Q7 T an modes n k nt callK L b (Qb T an modes n k nt callK L b rfl h2)]
 | block id b => exact Q7 T an modes n k nt callK L b (Qb T an modes n k nt callK L b rfl h) st _ _
 | _ => rfl
end
theorem Q14c {α : Type} {g m : Nat} {x y z : α} (h1 : g = m → x = z) (h2 : y = z) : (bif g == m then x else y) = z := by
 cases h : (g == m) with
 | true => exact h1 (by simpa using h)
 | false => exact h2
end
end Go.Proofs.YtecnlienmpdlaaaGreat.PM

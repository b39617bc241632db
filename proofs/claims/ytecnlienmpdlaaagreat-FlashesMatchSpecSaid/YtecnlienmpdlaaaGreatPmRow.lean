import Derived.Test.YtecnlienmpdlaaaGreatPmO
import Derived.WalkKit
import Derived.ProofKit
import Derived.OpenShut
import Derived.ShutString
import Derived.ChangeOld
import Derived.Below
import Derived.SizedLaws
import Derived.KernelRfl
set_option linter.unusedSimpArgs false
set_option linter.unusedVariables false
namespace Go.Proofs.YtecnlienmpdlaaaGreat.PM
open Go Go.ChangeShapes Go.WideShapes Go.ChangeAt Go.RowKit
noncomputable section
@[reducible] def Q2n : List Ty → Ty
  | [] => .unit
  | a :: l => .prod a (Q2n l)
def argsPV : (tys : List Ty) → (Q2n tys).D → List PV
 | [], _ => []
 | a :: l, x => argPV a x.1 :: argsPV l x.2
def tysB (P : Program) : List Ty → List Nat → Bool
 | [], [] => true
 | a :: l, t :: ts => tyB P a t && tysB P l ts
 | _, _ => false
def rowedB (P : Program) : List Nat → Bool
 | [] => true
 | t :: ts => P.readableRec t && decide (t < P.types.size) && rowedB P ts
mutual
def tyS (P : Program) : Ty → Nat → Bool
 | .int k, t => match P.underlying t with
   | some (.int k') => decide (k = k')
   | _ => false
 | .bool, t => match P.underlying t with
   | some .bool => true
   | _ => false
 | .str, t => match P.underlying t with
   | some .string => true
   | _ => false
 | .slice ty, t => match P.underlying t with
   | some (.slice e) => tyS P ty e && decide (P.cellsOf e = ty.size) && decide (0 < ty.size) && decide (ty.bytes ≤ P.bytesOf e)
   | _ => false
 | .unit, t => match P.underlying t with
   | some (.struct fs) => fs.toList.isEmpty && decide (P.cellsOf t = 0)
   | _ => false
 | .prod a b, t => match P.underlying t with
   | some (.struct fs) => (match fs.toList with
     | f :: fs => decide (f.offset = 0) && tyS P a f.type && decide (P.cellsOf f.type = a.size) && Q3e P b fs a.size
     | [] => false) && decide (P.cellsOf t = a.size + b.size)
   | _ => false
def Q3e (P : Program) : Ty → List Field → Nat → Bool
 | .unit, [], _ => true
 | .prod a b, f :: fs, off => decide (f.offset = off) && tyS P a f.type && decide (P.cellsOf f.type = a.size) && Q3e P b fs (off + a.size)
 | _, _, _ => false
end
theorem Q1ji (P : Program) : ∀ ty : Ty, (∀ t, tyB P ty t = tyS P ty t) ∧ ∀ fs off, Ql P ty fs off = Q3e P ty fs off := by
 intro ty
 induction ty with
 | int k => exact ⟨fun t => by simp only [tyB, tyS]; rfl, fun fs off => by simp [Ql, Q3e]⟩
 | bool => exact ⟨fun t => by simp only [tyB, tyS]; rfl, fun fs off => by simp [Ql, Q3e]⟩
 | str => exact ⟨fun t => by simp only [tyB, tyS]; rfl, fun fs off => by simp [Ql, Q3e]⟩
 | slice a ih => exact ⟨fun t => by simp only [tyB, tyS, ih.1]; rfl, fun fs off => by simp [Ql, Q3e]⟩
 | unit => exact ⟨fun t => by simp only [tyB, tyS]; rfl, fun fs off => by cases fs <;> simp [Ql, Q3e]⟩
 | prod a b iha ihb =>
   refine ⟨fun t => ?_, fun fs off => ?_⟩
   ·simp only [tyB, tyS]
    cases P.underlying t with
    | none => rfl
    | some d =>
      cases d with
      | struct fs =>
        simp only
        cases fs.toList with
        | nil => simp [Ql]
        | cons f fs => simp only [Ql, iha.1, ihb.2, Nat.zero_add]
      | _ => rfl
   ·cases fs with
    | nil => simp [Ql, Q3e]
    | cons f fs => simp only [Ql, Q3e, iha.1, ihb.2]
def tysS (P : Program) : List Ty → List Nat → Bool
 | [], [] => true
 | a :: l, t :: ts => tyS P a t && tysS P l ts
 | _, _ => false
theorem Q151 (P : Program) : ∀ (l : List Ty) (ts : List Nat), tysB P l ts = tysS P l ts
 | [], [] => rfl
 | a :: l, t :: ts => by simp only [tysB, tysS, (Q1ji P a).1, Q151 P l ts]
 | [], _ :: _ => rfl
 | _ :: _, [] => rfl
def lawK (res : List PV) (rows : List RowS) : Option Bool := match res, rows with
 | [.val _ .bool x], [] => some x
 | _, _ => none
section
variable {H : Type} {enc : TypeId × Value → H} {P : Program} {W : World} {spare : Nat → Bool} {held : Bool}
theorem Qyx {ty : Ty} {t : Nat} {base : Nat} {v : Value} (hb : tyB P ty t = true) (h : Value.okWide P W .any base t v) :
  ((∀ a b, ty ≠ .prod a b) → ty ≠ .unit → v.oneCell' = true) ∧ (((∃ a b, ty = .prod a b) ∨ ty = .unit) → ∃ cs, v = .agg cs) := by
 cases ty with
 | int k =>
   simp only [tyB] at hb
   split at hb
   ·rename_i k' hu
    obtain ⟨n, rfl⟩ := okWide_int hu h
    exact ⟨fun _ _ => rfl, fun h => by rcases h with ⟨_, _, h⟩ | h <;> cases h⟩
   ·cases hb
 | bool =>
   simp only [tyB] at hb
   split at hb
   ·rename_i hu
    obtain ⟨n, rfl⟩ := okWide_bool hu h
    exact ⟨fun _ _ => rfl, fun h => by rcases h with ⟨_, _, h⟩ | h <;> cases h⟩
   ·cases hb
 | str =>
   simp only [tyB] at hb
   split at hb
   ·rename_i hu
    obtain ⟨n, rfl⟩ := okWide_string hu h
    exact ⟨fun _ _ => rfl, fun h => by rcases h with ⟨_, _, h⟩ | h <;> cases h⟩
   ·cases hb
 | slice a =>
   simp only [tyB] at hb
   split at hb
   ·rename_i e hu
    obtain ⟨_, _, _, rfl⟩ := okWide_slice hu h
    exact ⟨fun _ _ => rfl, fun h => by rcases h with ⟨_, _, h⟩ | h <;> cases h⟩
   ·cases hb
 | unit =>
   simp only [tyB] at hb
   split at hb
   ·rename_i fs hu
    obtain ⟨cs, rfl, _⟩ := okWide_struct hu h
    exact ⟨fun _ h => absurd rfl h, fun _ => ⟨cs, rfl⟩⟩
   ·cases hb
 | prod a b =>
   simp only [tyB] at hb
   split at hb
   ·rename_i fs hu
    obtain ⟨cs, rfl, _⟩ := okWide_struct hu h
    exact ⟨fun h _ => absurd rfl (h a b), fun _ => ⟨cs, rfl⟩⟩
   ·cases hb
theorem Qm6 {base : Nat} : ∀ {tys : List Ty} {ts : List Nat} {vs : List Value} {ds : List (DataW H)} {ps : List MemPlace}, tysB P tys ts = true → DataW.TrodAll enc P W 0 spare held ts vs ds ps →
  (∀ (j : Nat) t v, ts[j]? = some t → vs[j]? = some v → Value.okWide P W .any base t v) → (DataW.weightsEach P ts ds).all (· ≤ reachBytes) = true →
  ∃ x : (Q2n tys).D, (∀ pl : Pl, (∀ b, pl.Z b → pl.L b) → VRs W pl (rowsOf []) (argsPV tys x) vs) ∧ Mens (rowsOf []) (argsPV tys x) ∧ okPV.okAll (rowsOf []) (argsPV tys x) = true ∧ Wf (Q2n tys) x ∧ Szd (Q2n tys) x ∧ ds.length = ts.length ∧ DR (Q2n tys) x (.agg ds)
 | [], [], vs, ds, ps, _, h, _, _ => by
   obtain ⟨rfl, rfl, rfl⟩ := trodAll_nil h
   exact ⟨(), fun _ _ => rfl, trivial, rfl, trivial, trivial, rfl, rfl⟩
 | [], _ :: _, _, _, _, h, _, _, _ => by simp [tysB] at h
 | _ :: _, [], _, _, _, h, _, _, _ => by simp [tysB] at h
 | ty :: tys, t :: ts, vs, ds, ps, hb, h, hv, hw => by
   simp only [tysB, Bool.and_eq_true] at hb
   obtain ⟨v, vs', d, ds', p, q, rfl, rfl, rfl, h1, h2⟩ := trodAll_cons h
   simp only [DataW.weightsEach, List.all_append, Bool.and_eq_true] at hw
   obtain ⟨x2, g1, g2, g3, g4, g5, g6, g7⟩ := Qm6 hb.2 h2 (fun j t' v' e1 e2 => hv (j + 1) t' v' (by simpa using e1) (by simpa using e2)) hw.2
   obtain ⟨fuel, h1⟩ := h1
   obtain ⟨x1, e1, e2, e3⟩ := opens fuel hb.1 h1
   obtain ⟨s1, s2⟩ := Qyx hb.1 (hv 0 t v rfl rfl)
   refine ⟨(x1, x2), fun pl hL => ?_, ?_, ?_, ⟨e2, g4⟩, ⟨sized ty hb.1 e3 hw.1, g5⟩, by simp [g6], d, ds', rfl, e3, g7⟩
   ·exact ⟨v, vs', rfl, (Qyw (pl := pl) hL e1 s1 s2).1, g1 pl hL⟩
   ·exact ⟨(Qyw (pl := ⟨fun _ => none, fun _ => False, fun _ => False, fun _ _ => False⟩) (fun _ h => h) e1 s1 s2).2.1, g2⟩
   ·simp only [argsPV, okPV.okAll, Bool.and_eq_true]
    exact ⟨(Qyw (pl := ⟨fun _ => none, fun _ => False, fun _ => False, fun _ _ => False⟩) (fun _ h => h) e1 s1 s2).2.2, g3⟩
theorem Qmv (hl : laidOutB P = true) {W' : World} (hb : Below W.heap.size W W') : ∀ {ts : List Nat} {vs : List Value} {ds : List (DataW H)} {ps : List MemPlace}, rowedB P ts = true →
  DataW.TrodAll enc P W 0 (fun _ => true) true ts vs ds ps → DataW.TrodAll enc P W' 0 (fun b => decide (b < W.heap.size)) true ts vs ds ps
 | [], vs, ds, ps, _, h => by
   obtain ⟨rfl, rfl, rfl⟩ := trodAll_nil h
   exact rfl
 | t :: ts, vs, ds, ps, hr, h => by
   simp only [rowedB, Bool.and_eq_true, decide_eq_true_eq] at hr
   obtain ⟨v, vs', d, ds', p, q, rfl, rfl, rfl, h1, h2⟩ := trodAll_cons h
   have hlt : ∀ x ∈ p, x.block < W.heap.size := by obtain ⟨m, hm⟩ := h1; exact DataW.trod_lt m _ _ _ hm
   exact ⟨p, q, Below.trod hl hr.1.1 hr.1.2 h1 hb hlt, Qmv hl hb hr.2 h2, rfl⟩
end
section
variable {C : Checked} {s : ChangeSpec} {f : Nat} {fn : Func} {dom : List PathCond} {H : Type} {enc : TypeId × Value → H}
structure LawFacts (C : Checked) (s : ChangeSpec) (f : Nat) (fn : Func) (tys : List Ty) (ts : List Nat) (rt : Nat) : Prop where
 own : ownKnob C.prog.godebug = none
 laid : laidOutB C.prog = true
 noInit : C.prog.inits.idxOf? f = none
 func : C.prog.funcs[f]? = some fn
 vars : s.vars = []
 params : fn.params.toList = ts
 opens : tysS C.prog tys ts = true
 rowed : rowedB C.prog ts = true
 res : fn.resultTypes = #[rt]
 bool : C.prog.underlying rt = some .bool
 spec : ∀ (H : Type) (ds : List (DataW H)), ds.length = ts.length → s.fn H ds = { results := [.lit (.bool true)], args := ds }
theorem Q13s {tys : List Ty} {ts : List Nat} {rt : Nat} (L : LawFacts C s f fn tys ts rt) {T : TT} {F : Nat → Option PFn} (hT : TTok C.prog T) (hF : Fok C.prog F)
  (pure : ∀ x : (Q2n tys).D, Wf (Q2n tys) x → Szd (Q2n tys) x → ∃ k, callC (R := Bool) T F k f (argsPV tys x) [] lawK = some true) {os : Os} (started : os.Started)
  (witness : ∃ (w : World) (tape : Tape) (i : Input), w.os = os ∧ (w.forCall tape i).Shaped C.prog ∧ i.vars = [] ∧ Input.okWide C.prog (w.forCall tape i) .any w.heap.size f i ∧
   s.pre6 enc C.prog fn dom false (w.forCall tape i).memory i.args ∧ ({} : Assume).holds C.prog (lone (Frame.enter C.prog f i.args .normal) [] (w.forCall tape i))) :
  ReturnsInHanded {} C os f .any (s.pre6 enc C.prog fn dom false) (s.post enc C.prog fn false true false false) := by
 refine returnsInHanded_of_change_sized L.own started L.noInit L.func witness ?_
 intro W base args ds gs before hval hW _ hsz _
 have hW' := hW
 obtain ⟨p, q, hA, hV, rfl, hfz, hnd⟩ := hW
 rw [L.vars] at hV
 obtain ⟨rfl, rfl⟩ := trodVars_none hV
 have hvt : s.plain.varTypes C.prog = [] := by unfold DataSpec.varTypes ChangeSpec.plain; rw [L.vars]; rfl
 rw [hvt, List.append_nil, List.append_nil] at hsz
 have hA' := hA
 rw [L.params] at hA hsz
 obtain ⟨x, g1, g2, g3, g4, g5, g6, _⟩ := Qm6 (base := base) ((Q151 _ _ _).trans L.opens) hA (fun j t v h1 h2 => hval j t v (by rw [← Array.getElem?_toList, L.params]; exact h1) (by rw [← Array.getElem?_toList]; exact h2)) hsz
 obtain ⟨k, hk⟩ := pure x g4 g5
 have hc := Q13r hT hF (b := true) hk g1 g2 g3
 simp only [Array.toArray_toList] at hc
 refine hc.mono fun e W' ⟨he, bel⟩ => ⟨.bool true, he, ?_⟩
 have hs := L.spec H ds (by rw [g6])
 refine ⟨ds, [], _, [], p, [], hW', ?_, ?_, ?_, bel.frame _, fun h => by cases h⟩
 ·rw [List.append_nil, hs, L.res]
  exact trodAll_mk1 (shut_bool L.bool _)
 ·rw [List.append_nil, hs]
  exact Qmv L.laid bel (by rw [L.params]; exact L.rowed) hA'
 ·rw [List.append_nil, hs, L.vars]
  exact rfl
end
end
end Go.Proofs.YtecnlienmpdlaaaGreat.PM

/- The small machine PM: a run goes one way alone (what a call hands on is one thing, whatever goes on behind it). -/
import Derived.Test.YtecnlienmpdlaaaPmD
set_option linter.unusedSimpArgs false
set_option linter.unusedVariables false
namespace Go.Proofs.Ytecnlienmpdlaaa.PM
open Go

/-- Where a run of code ends. -/
inductive Out3 where
  | n (σ : St) | x (j : Nat) (σ : St) | r (σ : St)

noncomputable def sel3 {R : Type} (N : St → Option R) (X : Nat → St → Option R) (Rt : St → Option R) : Out3 → Option R
  | .n σ => N σ
  | .x j σ => X j σ
  | .r σ => Rt σ

section
variable {T : TT} {an : Ann} {modes : Nat → List Mode} {n k nt : Nat} {R : Type} {callK : Nat → List PV → List RowS → (List PV → List RowS → Option R) → Option R}

theorem Rch.cond {A : Type} {F G : (A → Option R) → Option R} (c : Bool) (h1 : Rch F) (h2 : Rch G) : Rch fun K => bif c then F K else G K := by
  cases c
  · exact h2
  · exact h1

theorem doOps_det (hn : Det callK) {ops : Array Oper} {rid : Nat} : ∀ (l : List Oper) (i : Nat) (st : St), Rch fun K => doOps T modes nt callK ops rid i l st K
  | [], i, st => Rch.pure st
  | o :: l, i, st => by
    simp only [doOps]
    split
    · exact (doOp_det hn _ _ _).bind fun s => doOps_det hn l (i + 1) s
    · split
      · split
        · exact Rch.cond _ ((doOp_det hn _ _ _).bind fun s => doOps_det hn l (i + 1) s) (doOps_det hn l (i + 1) _)
        · exact doOps_det hn l (i + 1) _
        · exact Rch.fail
      · exact Rch.fail

theorem drawRun_det (hn : Det callK) {ops : Array Oper} (fp : Foot) (key : Nat) (o : Oper) (st : St) : Rch fun K => drawRun T modes nt callK ops fp key o st K := by
  unfold drawRun
  split
  · exact Rch.pure _
  · refine (doOp_det hn _ _ _).bind (H := fun st' K => if localOk fp key o (cutSt ops fp key o st) st' then K (joinSt fp key o st st') else none) fun s => ?_
    split
    · exact Rch.pure _
    · exact Rch.fail

theorem drawOp_det (hn : Det callK) {ops : Array Oper} (fp : Foot) (key : Nat) (o : Oper) (st : St) : Rch fun K => drawOp T modes nt callK ops fp key o st K := by
  refine Rch.congr (G := fun K => drawOp0 T modes nt callK ops fp key o st K) ?_ fun K => drawOp_eq
  unfold drawOp0
  split
  · rename_i b _
    cases b with
    | true => exact drawRun_det hn _ _ _ _
    | false => exact Rch.pure _
  · exact Rch.fail

theorem doDraw_det (hn : Det callK) {ops : Array Oper} {fps : List Foot} {rid : Nat} : ∀ (l : List Nat) (st : St), Rch fun K => doDraw T modes nt callK ops fps rid l st K
  | [], st => Rch.pure st
  | i :: l, st => by
    simp only [doDraw]
    split
    · exact (drawOp_det hn _ _ _ _).bind fun s => doDraw_det hn l s
    · exact Rch.fail

theorem entered_det (st : St) (spec : Option (List (Nat × Mode))) (key : Nat) : Rch fun K : St → Option R => entered n st spec key K := by
  unfold entered
  split
  · split
    · exact Rch.pure _
    · exact Rch.fail
  · exact Rch.pure _

/-- What a run of code does with its three ways on. -/
noncomputable def to3 (N' : St → Option R) (K : Out3 → Option R) : Out3 → Option R
  | .n σ => N' σ
  | .x j σ => K (.x j σ)
  | .r σ => K (.r σ)

theorem iter_det {rest : St → (St → Option R) → Option R} {body : (Out3 → Option R) → St → Option R}
    (hrest : ∀ st, Rch fun K => rest st K) (hbody : ∀ st, Rch fun K => body K st) :
    ∀ (m : Nat) (st : St), Rch fun K : Out3 → Option R => iter rest m (fun s N' => body (to3 N' K) s) st
  | 0, st => Rch.fail
  | m + 1, st => by
    simp only [iter]
    refine (hbody st).bind (H := fun (out : Out3) (K : Out3 → Option R) => to3 (fun st' => rest st' fun st'' => iter rest m (fun s N' => body (to3 N' K) s) st'') K out) fun out => ?_
    cases out with
    | n σ => exact (hrest σ).bind fun s => iter_det hrest hbody m s
    | x j σ => exact Rch.pure (Out3.x j σ)
    | r σ => exact Rch.pure (Out3.r σ)

theorem exec_det (hn : Det callK) : ∀ (c : Code) (st : St), Rch fun K : Out3 → Option R => exec T an modes n k nt callK (fun σ => K (.r σ)) c st (fun σ => K (.n σ)) (fun j σ => K (.x j σ)) := by
  intro c
  induction c with
  | skip => intro st; exact Rch.pure (Out3.n st)
  | region id ops draw =>
    intro st
    simp only [exec]
    split
    · split
      · split
        · exact (entered_det st _ _).bind fun s => (doDraw_det hn _ s).bind fun s' => Rch.pure (Out3.n s')
        · exact Rch.fail
      · exact Rch.fail
    · exact (entered_det st _ _).bind fun s => (doOps_det hn _ _ s).bind fun s' => Rch.pure (Out3.n s')
  | seq a b iha ihb =>
    intro st
    simp only [exec]
    refine (iha st).bind (H := fun (out : Out3) (K : Out3 → Option R) => to3 (fun σ => exec T an modes n k nt callK (fun σ => K (.r σ)) b σ (fun σ => K (.n σ)) (fun j σ => K (.x j σ))) K out) fun out => ?_
    cases out with
    | n σ => exact ihb σ
    | x j σ => exact Rch.pure (Out3.x j σ)
    | r σ => exact Rch.pure (Out3.r σ)
  | cond c a b iha ihb =>
    intro st
    simp only [exec]
    refine (entered_det st _ _).bind fun s => ?_
    have fi : ∀ out : Out3, Rch fun K : Out3 → Option R => sel3 (fiN an n a b fun σ => K (.n σ)) (condX an n a b fun j σ => K (.x j σ)) (fun σ => K (.r σ)) out := by
      intro out
      cases out with
      | n σ =>
        simp only [sel3, fiN]
        exact (entered_det σ _ _).bind fun s => Rch.pure (Out3.n s)
      | x j σ =>
        simp only [sel3, condX]
        cases findN an.ifs (condKey a b) with
        | none => exact Rch.pure (Out3.x j σ)
        | some sp => exact (entered_det σ _ _).bind fun s => Rch.pure (Out3.x j s)
      | r σ => exact Rch.pure (Out3.r σ)
    split
    · rename_i p x hc
      cases x with
      | true =>
        simp only [cond_true]
        exact (iha s).bind fi
      | false =>
        simp only [cond_false]
        exact (ihb s).bind fi
    · exact Rch.fail
  | block id b ih =>
    intro st
    simp only [exec]
    refine (entered_det st _ _).bind fun s => ?_
    refine (ih s).bind (H := fun (out : Out3) (K : Out3 → Option R) => sel3 (leave an n id fun σ => K (.n σ)) (outX an n id (fun σ => K (.n σ)) fun j σ => K (.x j σ)) (fun σ => K (.r σ)) out) fun out => ?_
    cases out with
    | n σ =>
      simp only [sel3, leave]
      exact (entered_det σ _ _).bind fun s => Rch.pure (Out3.n s)
    | x j σ =>
      simp only [sel3, outX, leave]
      split
      · exact (entered_det σ _ _).bind fun s => Rch.pure (Out3.n s)
      · exact (entered_det σ _ _).bind fun s => Rch.pure (Out3.x j s)
    | r σ => exact Rch.pure (Out3.r σ)
  | loop b ih =>
    intro st
    simp only [exec]
    exact (entered_det st _ _).bind fun s => iter_det (rest := atHead an n b) (body := fun K s => exec T an modes n k nt callK (fun σ => K (.r σ)) b s (fun σ => K (.n σ)) (fun j σ => K (.x j σ))) (fun st => entered_det st _ _) ih k s
  | exit id => intro st; exact Rch.pure (Out3.x id st)
  | ret => intro st; exact Rch.pure (Out3.r st)
  | _ => intro st; simp only [exec]; exact Rch.fail
end

theorem callC_det {R : Type} {T : TT} {F : Nat → Option PFn} : ∀ k, Det (callC (R := R) T F k)
  | 0 => fun g ws rs => Rch.fail
  | k + 1 => fun g ws rs => by
    simp only [callC]
    split
    · rename_i fn an hg
      split
      · rename_i c hc
        refine (exec_det (T := T) (an := an) (n := rs.length) (k := k) (nt := fn.ntmps) (modes := modesOf F) (callC_det k) c _).bind (H := fun (out : Out3) (K : List PV × List RowS → Option R) => sel3 (ending T fn an rs.length fun res rout => K (res, rout)) (fun _ _ => none) (ending T fn an rs.length fun res rout => K (res, rout)) out) fun out => ?_
        have he : ∀ σ, Rch fun K : List PV × List RowS → Option R => ending T fn an rs.length (fun res rout => K (res, rout)) σ := by
          intro σ
          unfold ending
          split
          · exact Rch.pure _
          · exact Rch.fail
        cases out with
        | n σ => exact he σ
        | x j σ => exact Rch.fail
        | r σ => exact he σ
      · exact Rch.fail
    · split
      · exact Rch.pure _
      · exact Rch.fail
    · exact Rch.fail
end Go.Proofs.Ytecnlienmpdlaaa.PM

/- The small machine PM: a run goes one way alone (what a call hands on is one thing, whatever goes on behind it). -/
import Derived.Test.YtoepnomdklhhlaaGreatPmD
set_option linter.unusedSimpArgs false
set_option linter.unusedVariables false
namespace Go.Proofs.YtoepnomdklhhlaaGreat.PM
open Go

/-- Where a run of code ends. -/
inductive Out3 where
 | n (σ : St) | x (j : Nat) (σ : St) | r (σ : St)

noncomputable def sel3 {R : Type} (N : St → Option R) (X : Nat → St → Option R) (Rt : St → Option R) : Out3 → Option R
 | .n σ => N σ
 | .x j σ => X j σ
 | .r σ => Rt σ

section
variable {T : TT} {an : Ann} {modes : Nat → List Mode} {n k nt : Nat} {R : Type} {callK : Nat → List PV → List RowS → (List PV → List RowS → Option R) → Option R}

theorem doOps_det (hn : Det callK) {ops : Array Oper} {rid : Nat} : ∀ {l : List Oper} {i : Nat} {st : St} {K : St → Option R} {r : R}, doOps T modes nt callK ops rid i l st K = some r →
  ∃ st', K st' = some r ∧ ∀ (K' : St → Option R) r', K' st' = some r' → doOps T modes nt callK ops rid i l st K' = some r'
 | [], i, st, K, r, h => ⟨st, h, fun K' r' h' => h'⟩
 | o :: l, i, st, K, r, h => by
   simp only [doOps] at h
   split at h
   ·rename_i hg
    obtain ⟨s1, h1, h2⟩ := doOp_det hn h
    obtain ⟨s2, h3, h4⟩ := doOps_det hn h1
    refine ⟨s2, h3, fun K' r' hK => ?_⟩
    simp only [doOps, hg]
    exact h2 _ _ (h4 _ _ hK)
   ·rename_i j want hg
    split at h
    ·rename_i d hd
     split at h
     ·rename_i b he
      cases hbw : (b == want) with
      | true =>
        rw [hbw] at h
        simp only [cond_true] at h
        obtain ⟨s1, h1, h2⟩ := doOp_det hn h
        obtain ⟨s2, h3, h4⟩ := doOps_det hn h1
        refine ⟨s2, h3, fun K' r' hK => ?_⟩
        simp only [doOps, hg, hd, he, hbw, cond_true]
        exact h2 _ _ (h4 _ _ hK)
      | false =>
        rw [hbw] at h
        simp only [cond_false] at h
        obtain ⟨s2, h3, h4⟩ := doOps_det hn h
        refine ⟨s2, h3, fun K' r' hK => ?_⟩
        simp only [doOps, hg, hd, he, hbw, cond_false]
        exact h4 _ _ hK
     ·rename_i he
      obtain ⟨s2, h3, h4⟩ := doOps_det hn h
      refine ⟨s2, h3, fun K' r' hK => ?_⟩
      simp only [doOps, hg, hd, he]
      exact h4 _ _ hK
     ·cases h
    ·cases h

theorem drawOp_det (hn : Det callK) {ops : Array Oper} {fp : Foot} {key : Nat} {o : Oper} {st : St} {K : St → Option R} {r : R} (h : drawOp T modes nt callK ops fp key o st K = some r) :
  ∃ st', K st' = some r ∧ ∀ (K' : St → Option R) r', K' st' = some r' → drawOp T modes nt callK ops fp key o st K' = some r' := by
 rw [drawOp_eq] at h
 simp only [drawOp_eq]
 unfold drawOp0 at h
 split at h
 ·rename_i b ha
  cases b with
  | true =>
    simp only [cond_true] at h
    unfold drawRun at h
    split at h
    ·rename_i v hp
     refine ⟨_, h, fun K' r' hK => ?_⟩
     unfold drawOp0 drawRun
     simp only [ha, cond_true, hp]
     exact hK
    ·rename_i hp
     obtain ⟨st0, h1, h2⟩ := doOp_det hn h
     split at h1
     ·rename_i hl
      refine ⟨_, h1, fun K' r' hK => ?_⟩
      unfold drawOp0 drawRun
      simp only [ha, cond_true, hp]
      exact h2 _ _ (by simp only [hl, if_true]; exact hK)
     ·cases h1
  | false =>
    simp only [cond_false] at h
    refine ⟨_, h, fun K' r' hK => ?_⟩
    unfold drawOp0
    simp only [ha, cond_false]
    exact hK
 ·cases h
theorem doDraw_det (hn : Det callK) {ops : Array Oper} {fps : List Foot} {rid : Nat} : ∀ {l : List Nat} {st : St} {K : St → Option R} {r : R}, doDraw T modes nt callK ops fps rid l st K = some r →
  ∃ st', K st' = some r ∧ ∀ (K' : St → Option R) r', K' st' = some r' → doDraw T modes nt callK ops fps rid l st K' = some r'
 | [], st, K, r, h => ⟨st, h, fun K' r' h' => h'⟩
 | i :: l, st, K, r, h => by
   simp only [doDraw] at h
   split at h
   ·rename_i o ho
    obtain ⟨s1, h1, h2⟩ := drawOp_det hn h
    obtain ⟨s2, h3, h4⟩ := doDraw_det hn h1
    refine ⟨s2, h3, fun K' r' hK => ?_⟩
    simp only [doDraw, ho]
    exact h2 _ _ (h4 _ _ hK)
   ·cases h

theorem entered_det {st : St} {spec : Option (List (Nat × Mode))} {key : Nat} {K : St → Option R} {r : R} (h : entered n st spec key K = some r) :
  ∃ st', K st' = some r ∧ ∀ (K' : St → Option R) r', K' st' = some r' → entered n st spec key K' = some r' := by
 unfold entered at h
 split at h
 ·split at h
  ·rename_i st' hn
   refine ⟨st', h, fun K' r' hK => ?_⟩
   simp only [entered, hn]
   exact hK
  ·cases h
 ·exact ⟨st, h, fun K' r' hK => by simpa [entered] using hK⟩

theorem iter_det {rest : St → (St → Option R) → Option R} {body : (Nat → St → Option R) → (St → Option R) → St → (St → Option R) → Option R}
  (hrest : ∀ st K r, rest st K = some r → ∃ st', K st' = some r ∧ ∀ (K' : St → Option R) r', K' st' = some r' → rest st K' = some r')
  (hbody : ∀ X Rt st N r, body X Rt st N = some r → ∃ out, sel3 N X Rt out = some r ∧ ∀ N' X' Rt' r', sel3 N' X' Rt' out = some r' → body X' Rt' st N' = some r') :
  ∀ (m : Nat) {st : St} {X : Nat → St → Option R} {Rt : St → Option R} {r : R}, iter rest m (fun s N' => body X Rt s N') st = some r →
    ∃ out, sel3 (fun _ => none) X Rt out = some r ∧ ∀ X' Rt' r', sel3 (fun _ => none) X' Rt' out = some r' → iter rest m (fun s N' => body X' Rt' s N') st = some r'
 | 0, st, X, Rt, r, h => by cases h
 | m + 1, st, X, Rt, r, h => by
   simp only [iter] at h
   obtain ⟨out, h1, h2⟩ := hbody _ _ _ _ _ h
   cases out with
   | n σ =>
     simp only [sel3] at h1 h2
     obtain ⟨s2, h3, h4⟩ := hrest _ _ _ h1
     obtain ⟨out2, h5, h6⟩ := iter_det hrest hbody m h3
     refine ⟨out2, h5, fun X' Rt' r' hs => ?_⟩
     simp only [iter]
     exact h2 _ _ _ _ (h4 _ _ (h6 _ _ _ hs))
   | x j σ =>
     refine ⟨.x j σ, h1, fun X' Rt' r' hs => ?_⟩
     simp only [iter]
     exact h2 _ _ _ _ hs
   | r σ =>
     refine ⟨.r σ, h1, fun X' Rt' r' hs => ?_⟩
     simp only [iter]
     exact h2 _ _ _ _ hs

theorem exec_det (hn : Det callK) : ∀ (c : Code) {Rt : St → Option R} {st : St} {N : St → Option R} {X : Nat → St → Option R} {r : R}, exec T an modes n k nt callK Rt c st N X = some r →
  ∃ out, sel3 N X Rt out = some r ∧ ∀ (N' : St → Option R) (X' : Nat → St → Option R) (Rt' : St → Option R) r', sel3 N' X' Rt' out = some r' → exec T an modes n k nt callK Rt' c st N' X' = some r' := by
 intro c
 induction c with
 | skip => intro Rt st N X r h; exact ⟨.n st, h, fun N' X' Rt' r' hs => hs⟩
 | region id ops draw =>
   intro Rt st N X r h
   simp only [exec] at h
   split at h
   ·rename_i hd
    split at h
    ·rename_i fps hf
     split at h
     ·rename_i hok
      obtain ⟨s1, h1, h2⟩ := entered_det h
      obtain ⟨s2, h3, h4⟩ := doDraw_det hn h1
      refine ⟨.n s2, h3, fun N' X' Rt' r' hs => ?_⟩
      simp only [exec, hd, if_true, hf, hok]
      exact h2 _ _ (h4 _ _ hs)
     ·cases h
    ·cases h
   ·rename_i hd
    obtain ⟨s1, h1, h2⟩ := entered_det h
    obtain ⟨s2, h3, h4⟩ := doOps_det hn h1
    refine ⟨.n s2, h3, fun N' X' Rt' r' hs => ?_⟩
    simp only [exec, hd]
    exact h2 _ _ (h4 _ _ hs)
 | seq a b iha ihb =>
   intro Rt st N X r h
   simp only [exec] at h
   obtain ⟨out, h1, h2⟩ := iha h
   cases out with
   | n σ =>
     simp only [sel3] at h1
     obtain ⟨out2, h3, h4⟩ := ihb h1
     refine ⟨out2, h3, fun N' X' Rt' r' hs => ?_⟩
     simp only [exec]
     exact h2 _ _ _ _ (h4 _ _ _ _ hs)
   | x j σ => exact ⟨.x j σ, h1, fun N' X' Rt' r' hs => by simp only [exec]; exact h2 _ _ _ _ hs⟩
   | r σ => exact ⟨.r σ, h1, fun N' X' Rt' r' hs => by simp only [exec]; exact h2 _ _ _ _ hs⟩
 | cond c a b iha ihb =>
   intro Rt st N X r h
   simp only [exec] at h
   obtain ⟨s0, h0, h0'⟩ := entered_det h
   have fi : ∀ {out : Out3}, sel3 (fiN an n a b N) (condX an n a b X) Rt out = some r → ∃ out', sel3 N X Rt out' = some r ∧ ∀ (N' : St → Option R) (X' : Nat → St → Option R) (Rt' : St → Option R) r', sel3 N' X' Rt' out' = some r' → sel3 (fiN an n a b N') (condX an n a b X') Rt' out = some r' := by
    intro out h1
    cases out with
    | n σ =>
      simp only [sel3, fiN] at h1
      obtain ⟨s1, h3, h4⟩ := entered_det h1
      exact ⟨.n s1, h3, fun N' X' Rt' r' hs => by simp only [sel3, fiN]; exact h4 _ _ hs⟩
    | x j σ =>
      simp only [sel3, condX] at h1
      cases hc : findN an.ifs (condKey a b) with
      | none =>
        rw [hc] at h1
        exact ⟨.x j σ, h1, fun N' X' Rt' r' hs => by simp only [sel3, condX, hc]; exact hs⟩
      | some sp =>
        rw [hc] at h1
        obtain ⟨s1, h3, h4⟩ := entered_det h1
        exact ⟨.x j s1, h3, fun N' X' Rt' r' hs => by simp only [sel3, condX, hc]; exact h4 _ _ hs⟩
    | r σ => exact ⟨.r σ, h1, fun N' X' Rt' r' hs => hs⟩
   split at h0
   ·rename_i p x hc
    cases x with
    | true =>
      simp only [cond_true] at h0
      obtain ⟨out, h1, h2⟩ := iha h0
      obtain ⟨out', h5, h6⟩ := fi h1
      refine ⟨out', h5, fun N' X' Rt' r' hs => ?_⟩
      simp only [exec]
      refine h0' _ _ ?_
      simp only [hc, cond_true]
      exact h2 _ _ _ _ (h6 _ _ _ _ hs)
    | false =>
      simp only [cond_false] at h0
      obtain ⟨out, h1, h2⟩ := ihb h0
      obtain ⟨out', h5, h6⟩ := fi h1
      refine ⟨out', h5, fun N' X' Rt' r' hs => ?_⟩
      simp only [exec]
      refine h0' _ _ ?_
      simp only [hc, cond_false]
      exact h2 _ _ _ _ (h6 _ _ _ _ hs)
   ·cases h0
 | block id b ih =>
   intro Rt st N X r h
   simp only [exec] at h
   obtain ⟨s0, h0, h0'⟩ := entered_det h
   obtain ⟨out, h1, h2⟩ := ih h0
   cases out with
   | n σ =>
     simp only [sel3, leave] at h1
     obtain ⟨s1, h3, h4⟩ := entered_det h1
     refine ⟨.n s1, h3, fun N' X' Rt' r' hs => ?_⟩
     simp only [exec]
     exact h0' _ _ (h2 _ _ _ _ (by simp only [sel3, leave]; exact h4 _ _ hs))
   | x j σ =>
     simp only [sel3, outX] at h1
     cases hj : (j == id) with
     | true =>
       rw [hj] at h1
       simp only [if_true, leave] at h1
       obtain ⟨s1, h3, h4⟩ := entered_det h1
       refine ⟨.n s1, h3, fun N' X' Rt' r' hs => ?_⟩
       simp only [exec]
       exact h0' _ _ (h2 _ _ _ _ (by simp only [sel3, outX, hj, if_true, leave]; exact h4 _ _ hs))
     | false =>
       rw [hj] at h1
       simp only [Bool.false_eq_true, if_false] at h1
       obtain ⟨s1, h3, h4⟩ := entered_det h1
       refine ⟨.x j s1, h3, fun N' X' Rt' r' hs => ?_⟩
       simp only [exec]
       exact h0' _ _ (h2 _ _ _ _ (by simp only [sel3, outX, hj, Bool.false_eq_true, if_false]; exact h4 _ _ hs))
   | r σ =>
     refine ⟨.r σ, h1, fun N' X' Rt' r' hs => ?_⟩
     simp only [exec]
     exact h0' _ _ (h2 _ _ _ _ hs)
 | loop b ih =>
   intro Rt st N X r h
   simp only [exec, atHead] at h
   obtain ⟨s0, h0, h0'⟩ := entered_det h
   obtain ⟨out, h1, h2⟩ := iter_det (rest := atHead an n b) (body := fun X Rt s N' => exec T an modes n k nt callK Rt b s N' X) (fun st K r h => entered_det h) (fun X Rt st N r h => ih h) k h0
   cases out with
   | n σ => cases h1
   | x j σ =>
     refine ⟨.x j σ, h1, fun N' X' Rt' r' hs => ?_⟩
     simp only [exec, atHead]
     exact h0' _ _ (h2 X' Rt' _ hs)
   | r σ =>
     refine ⟨.r σ, h1, fun N' X' Rt' r' hs => ?_⟩
     simp only [exec, atHead]
     exact h0' _ _ (h2 X' Rt' _ hs)
 | exit id => intro Rt st N X r h; exact ⟨.x id st, h, fun N' X' Rt' r' hs => hs⟩
 | ret => intro Rt st N X r h; exact ⟨.r st, h, fun N' X' Rt' r' hs => hs⟩
 | _ => intros; rename_i h; simp [exec] at h
end

theorem callC_det {R : Type} {T : TT} {F : Nat → Option PFn} : ∀ k, Det (callC (R := R) T F k)
 | 0 => fun g ws rs K r h => by cases h
 | k + 1 => fun g ws rs K r h => by
   simp only [callC] at h
   split at h
   ·rename_i fn an hg
    split at h
    ·rename_i c hc
     obtain ⟨out, h1, h2⟩ := exec_det (callC_det k) c h
     cases out with
     | n σ =>
       simp only [sel3, ending] at h1
       split at h1
       ·rename_i x hx
        refine ⟨x.1, x.2, h1, fun K' r' hK => ?_⟩
        simp only [callC, hg, hc]
        exact h2 _ _ _ _ (by simp only [sel3, ending, hx]; exact hK)
       ·cases h1
     | x j σ => cases h1
     | r σ =>
       simp only [sel3, ending] at h1
       split at h1
       ·rename_i x hx
        refine ⟨x.1, x.2, h1, fun K' r' hK => ?_⟩
        simp only [callC, hg, hc]
        exact h2 _ _ _ _ (by simp only [sel3, ending, hx]; exact hK)
       ·cases h1
    ·cases h
   ·rename_i m spec hg
    split at h
    ·rename_i x hx
     refine ⟨x.1, x.2, h, fun K' r' hK => ?_⟩
     simp only [callC, hg, hx]
     exact hK
    ·cases h
   ·cases h
end Go.Proofs.YtoepnomdklhhlaaGreat.PM

/- The small machine PM is sound, part twelve and a half: regions whose order is open. -/
import Derived.Test.YtoepnomdklhhlaaGreatPmL
set_option linter.unusedSimpArgs false
set_option linter.unusedVariables false
namespace Go.Proofs.YtoepnomdklhhlaaGreat.PM
open Go

/-! ### a run is one way -/
/-- A call hands one thing on. -/
def Det {R : Type} (callK : Nat → List PV → List RowS → (List PV → List RowS → Option R) → Option R) : Prop :=
 ∀ g ws rs K r, callK g ws rs K = some r → ∃ res rout, K res rout = some r ∧ ∀ (K' : List PV → List RowS → Option R) r', K' res rout = some r' → callK g ws rs K' = some r'

section
variable {T : TT} {modes : Nat → List Mode} {nt : Nat} {R : Type} {callK : Nat → List PV → List RowS → (List PV → List RowS → Option R) → Option R}

theorem doOp_det (hn : Det callK) {key : Nat} {o : Oper} {st : St} {K : St → Option R} {r : R} (h : doOp T modes nt callK key o st K = some r) :
  ∃ st', K st' = some r ∧ ∀ (K' : St → Option R) r', K' st' = some r' → doOp T modes nt callK key o st K' = some r' := by
 unfold doOp at h
 split at h
 ·rename_i f as ats ho
  split at h
  ·rename_i g caps vs hf hvs
   split at h
   ·rename_i p hp
    obtain ⟨res, rout, h1, h2⟩ := hn _ _ _ _ _ h
    split at h1
    ·rename_i out hout
     split at h1
     ·rename_i hfree
      cases hok : out.ok with
      | false => rw [hok] at h1; cases h1
      | true =>
        rw [hok] at h1
        refine ⟨_, h1, fun K' r' hK' => ?_⟩
        unfold doOp
        simp only [ho, hf, hvs, hp]
        refine h2 _ _ ?_
        simp only [hout, hfree, if_true, hok, cond_true]
        exact hK'
     ·cases h1
    ·cases h1
   ·cases h
  ·cases h
 ·rename_i op hop
  split at h
  ·rename_i out hout
   split at h
   ·rename_i hfree
    cases hok : out.ok with
    | false => rw [hok] at h; cases h
    | true =>
      rw [hok] at h
      refine ⟨_, h, fun K' r' hK' => ?_⟩
      unfold doOp
      split
      ·rename_i f as ats ho
       exact absurd ho (hop _ _ _)
      ·simp only [hout, hfree, if_true, hok, cond_true]
       exact hK'
   ·cases h
  ·cases h
end

/-! ### one operation of an open order, from state to state -/
section
variable (T : TT) (modes : Nat → List Mode) (nt : Nat) {R : Type} (callK : Nat → List PV → List RowS → (List PV → List RowS → Option R) → Option R) (ops : Array Oper) (fps : List Foot) (rid : Nat)

/-- Operation i leads from one state to another. -/
inductive Goes1 (i : Nat) (st : St) : St → Prop where
 | run (o : Oper) (st0 : St) (ho : ops[i]? = some o) (ha : askPM ops o st = some true)
   (hd : ∀ (K : St → Option R) r, K st0 = some r → doOp T modes nt callK (keyAt rid i) o (cutSt ops (footAt fps i) (keyAt rid i) o st) K = some r)
   (hl : localOk (footAt fps i) (keyAt rid i) o (cutSt ops (footAt fps i) (keyAt rid i) o st) st0 = true) : Goes1 i st (joinSt (footAt fps i) (keyAt rid i) o st st0)
 | addr (o : Oper) (v : PV) (ho : ops[i]? = some o) (ha : askPM ops o st = some true) (hp : ptrOp T o st = some v) : Goes1 i st ⟨putDst nt st.env o.dst (some v), st.rows⟩
 | skip (o : Oper) (ho : ops[i]? = some o) (ha : askPM ops o st = some false) : Goes1 i st ⟨putDst nt st.env o.dst none, st.rows⟩

inductive GoesL : List Nat → St → St → Prop where
 | nil (st : St) : GoesL [] st st
 | cons {i : Nat} {l : List Nat} {st st1 st2 : St} (h : Goes1 T modes nt callK ops fps rid i st st1) (h2 : GoesL l st1 st2) : GoesL (i :: l) st st2
end

section
variable {T : TT} {modes : Nat → List Mode} {nt : Nat} {R : Type} {callK : Nat → List PV → List RowS → (List PV → List RowS → Option R) → Option R} {ops : Array Oper} {fps : List Foot} {rid : Nat}

theorem upd_same {β : Type} (f : Nat → Option β) (a : Nat) (b : β) (h : f a = some b) : upd f a (some b) = f := by
 funext x
 rw [upd_at]
 split
 ·rename_i e; subst e; exact h.symm
 ·rfl
theorem drawOp_eq {fp : Foot} {key : Nat} {o : Oper} {st : St} {K : St → Option R} : drawOp T modes nt callK ops fp key o st K = drawOp0 T modes nt callK ops fp key o st K := by
 unfold drawOp drawOp0 askPM
 cases hg : o.guard with
 | none => rfl
 | some g =>
   obtain ⟨j, want⟩ := g
   simp only
   cases hd : (ops[j]?).bind (·.dst) with
   | none => rfl
   | some d =>
     simp only
     split
     ·rename_i b hb
      cases hbw : (b == want) with
      | true =>
        have : b = want := by simpa using hbw
        subst this
        rw [show upd st.env d (some (mb b)) = st.env from upd_same _ _ _ hb]
        rfl
      | false =>
        have : b = !want := by cases b <;> cases want <;> simp at hbw ⊢
        subst this
        rw [show upd st.env d (some (mb (!want))) = st.env from upd_same _ _ _ hb]
        rfl
     ·rfl
     ·rfl

theorem drawOp_goes (hn : Det callK) {i : Nat} {o : Oper} (ho : ops[i]? = some o) {st : St} {K : St → Option R} {r : R} (h : drawOp T modes nt callK ops (footAt fps i) (keyAt rid i) o st K = some r) :
  ∃ st', K st' = some r ∧ Goes1 T modes nt callK ops fps rid i st st' := by
 rw [drawOp_eq] at h
 unfold drawOp0 at h
 split at h
 ·rename_i b ha
  cases b with
  | true =>
    simp only [cond_true] at h
    unfold drawRun at h
    split at h
    ·rename_i v hp
     exact ⟨_, h, .addr o v ho ha hp⟩
    ·obtain ⟨st0, h1, h2⟩ := doOp_det hn h
     split at h1
     ·rename_i hl
      exact ⟨_, h1, .run o st0 ho ha h2 hl⟩
     ·cases h1
  | false =>
    simp only [cond_false] at h
    exact ⟨_, h, .skip o ho ha⟩
 ·cases h

theorem doDraw_goes (hn : Det callK) : ∀ {l : List Nat} {st : St} {K : St → Option R} {r : R}, doDraw T modes nt callK ops fps rid l st K = some r → ∃ st', K st' = some r ∧ GoesL T modes nt callK ops fps rid l st st'
 | [], st, K, r, h => ⟨st, h, .nil st⟩
 | i :: l, st, K, r, h => by
   simp only [doDraw] at h
   split at h
   ·rename_i o ho
    obtain ⟨st1, h1, h2⟩ := drawOp_goes hn ho h
    obtain ⟨st2, h3, h4⟩ := doDraw_goes hn h1
    exact ⟨st2, h3, .cons h2 h4⟩
   ·cases h

/-! ### two operations that do not meet -/
theorem isDst_iff {o : Oper} {s : Nat} : isDst o s = true ↔ o.dst = some s := by
 unfold isDst
 cases o.dst with
 | none => simp
 | some d => simp
theorem putDst_none {env : Env} {o : Oper} (s : Nat) : putDst nt env o.dst none s = if isDst o s then (if s < nt then some .und else none) else env s := by
 by_cases h : isDst o s = true
 ·have hd := isDst_iff.1 h
  rw [if_pos h, hd]
  simp [putDst, upd_at]
 ·rw [if_neg h]
  cases hd : o.dst with
  | none => rfl
  | some d =>
    have : s ≠ d := fun e => h (isDst_iff.2 (by rw [hd, e]))
    simp only [putDst, upd_at, if_neg this]

theorem putDst_at {env : Env} {o : Oper} {ov : Option PV} (s : Nat) : putDst nt env o.dst ov s = if isDst o s then (if s < nt then some (ov.getD .und) else none) else env s := by
 by_cases h : isDst o s = true
 ·have hd := isDst_iff.1 h
  rw [if_pos h, hd]
  cases ov <;> simp [putDst, upd_at]
 ·rw [if_neg h]
  cases hd : o.dst with
  | none => rfl
  | some d =>
    have : s ≠ d := fun e => h (isDst_iff.2 (by rw [hd, e]))
    cases ov <;> simp only [putDst, upd_at, if_neg this]

theorem apart_dst {x y : Oper} (h : slotsApart ops x y = true) {d : Nat} (hd : x.dst = some d) : d ∉ slotsOf ops y ∧ isDst y d = false := by
 unfold slotsApart at h
 rw [hd] at h
 simp only [Bool.and_eq_true, Bool.not_eq_true', List.any_eq_false, beq_iff_eq] at h
 exact ⟨fun hm => h.1 d hm rfl, h.2⟩

/-- Where a state has become another at an operation's slot and rows alone. -/
structure OnlyAt (fp : Foot) (key : Nat) (x : Oper) (st st' : St) : Prop where
 env : ∀ s, isDst x s = false → st'.env s = st.env s
 rows : ∀ r, wrFoot fp key r = false → st'.rows r = st.rows r

theorem join_only (fp : Foot) (key : Nat) (o : Oper) (st st0 : St) : OnlyAt fp key o st (joinSt fp key o st st0) :=
 ⟨fun s h => by simp [joinSt, h], fun r h => by simp [joinSt, h]⟩
theorem skip_only (fp : Foot) (key : Nat) (o : Oper) (st : St) : OnlyAt fp key o st ⟨putDst nt st.env o.dst none, st.rows⟩ :=
 ⟨fun s h => by show putDst nt st.env o.dst none s = _; rw [putDst_none, h]; simp, fun r h => rfl⟩
theorem addr_only (fp : Foot) (key : Nat) (o : Oper) (st : St) (v : PV) : OnlyAt fp key o st ⟨putDst nt st.env o.dst (some v), st.rows⟩ :=
 ⟨fun s h => by show putDst nt st.env o.dst (some v) s = _; rw [putDst_at, h]; simp, fun r h => rfl⟩
theorem goes_only {i : Nat} {o : Oper} (ho : ops[i]? = some o) {st st' : St} (h : Goes1 T modes nt callK ops fps rid i st st') : OnlyAt (footAt fps i) (keyAt rid i) o st st' := by
 cases h with
 | run o' st0 ho' ha hd hl => rw [ho] at ho'; cases ho'; exact join_only _ _ _ _ _
 | addr o' v ho' ha hp => rw [ho] at ho'; cases ho'; exact addr_only _ _ _ _ _
 | skip o' ho' ha => rw [ho] at ho'; cases ho'; exact skip_only _ _ _ _

theorem away_out {fp : Foot} {key : Nat} {fp' : Foot} {key' : Nat} (h : awayFrom fp key fp' key' = true) {r : Nat} (hr : wrFoot fp key r = true) : inFoot fp' key' r = false := by
 simp only [awayFrom, Bool.and_eq_true, Bool.not_eq_true', List.all_eq_true] at h
 obtain ⟨⟨h1, h2⟩, h3⟩ := h
 unfold wrFoot at hr
 rw [Bool.or_eq_true] at hr
 rcases hr with hr | hr
 ·cases hi : inFoot fp' key' r with
  | false => rfl
  | true =>
    exfalso
    simp only [inFoot, wrFoot, Bool.or_eq_true] at hi
    rcases hi with (hi | hi) | hi
    ·simp only [ownRow, beq_iff_eq] at hr hi
     simp [← hr, ← hi] at h3
    ·obtain ⟨x, hx, e⟩ := List.any_eq_true.1 hi
     have := h2 x (List.mem_append_right _ hx)
     rw [beq_iff_eq] at e
     rw [e, hr] at this; cases this
    ·obtain ⟨x, hx, e⟩ := List.any_eq_true.1 hi
     have := h2 x (List.mem_append_left _ hx)
     rw [beq_iff_eq] at e
     rw [e, hr] at this; cases this
 ·obtain ⟨x, hx, e⟩ := List.any_eq_true.1 hr
  rw [beq_iff_eq] at e
  subst e
  exact h1 _ hx

theorem ask_same {o : Oper} {st st' : St} (h : ∀ s ∈ slotsOf ops o, st'.env s = st.env s) : askPM ops o st' = askPM ops o st := by
 unfold askPM
 cases hg : o.guard with
 | none => rfl
 | some g =>
   obtain ⟨j, want⟩ := g
   simp only
   cases hd : (ops[j]?).bind (·.dst) with
   | none => rfl
   | some d =>
     simp only
     rw [h d (by simp [slotsOf, hg, hd])]

theorem cut_same {fp : Foot} {key : Nat} {o : Oper} {st st' : St} (h : ∀ s ∈ slotsOf ops o, st'.env s = st.env s) (hr : ∀ r, inFoot fp key r = true → st'.rows r = st.rows r) : cutSt ops fp key o st' = cutSt ops fp key o st := by
 unfold cutSt
 congr 1
 ·funext s
  split
  ·rename_i hs
   obtain ⟨x, hx, e⟩ := List.any_eq_true.1 hs
   rw [beq_iff_eq] at e
   subst e
   exact h _ hx
  ·rfl
 ·funext r
  split
  ·rename_i hi; exact hr r hi
  ·rfl

theorem eq_goes {i : Nat} {st st' st'' : St} (h : Goes1 T modes nt callK ops fps rid i st st') (e : st'' = st') : Goes1 T modes nt callK ops fps rid i st st'' := e ▸ h

theorem ptrLook_same {st st' : St} {x : Operand} (h : ∀ t, x = .tmp t → st'.env t = st.env t) : ptrLook st' x = ptrLook st x := by
 cases x with
 | tmp t => simp only [ptrLook, h t rfl]
 | _ => rfl
theorem ptrOp_same {o : Oper} {st st' : St} (h : ∀ s ∈ slotsOf ops o, st'.env s = st.env s) : ptrOp T o st' = ptrOp T o st := by
 have hx : ∀ x : Operand, x ∈ o.op.operands → ptrLook st' x = ptrLook st x := by
  intro x hx
  refine ptrLook_same fun t e => h t ?_
  subst e
  exact List.mem_append_left _ (List.mem_filterMap.2 ⟨.tmp t, by simpa using hx, rfl⟩)
 unfold ptrOp
 cases hop : o.op with
 | move x => exact hx x (by simp [hop, Op.operands])
 | assign x => exact hx x (by simp [hop, Op.operands])
 | nilCheck x => exact hx x (by simp [hop, Op.operands])
 | fieldAddr s x f => simp only [opOut, hx x (by simp [hop, Op.operands])]
 | _ => rfl

/-- What an operation leaves in its own slot and rows. -/
structure Leaves (fp : Foot) (key : Nat) (o : Oper) (f : Nat → Option PV) (g : Nat → Option RowS) (st st' : St) : Prop where
 env : ∀ s, st'.env s = if isDst o s then f s else st.env s
 rows : ∀ r, st'.rows r = if wrFoot fp key r then g r else st.rows r

/-- Out of any state that looks the same to it an operation leaves the same. -/
theorem goes_any {i : Nat} {o : Oper} (ho : ops[i]? = some o) {st st' : St} (h : Goes1 T modes nt callK ops fps rid i st st') :
  ∀ st2, (∀ s ∈ slotsOf ops o, st2.env s = st.env s) → (∀ r, inFoot (footAt fps i) (keyAt rid i) r = true → st2.rows r = st.rows r) →
    ∃ st2', Goes1 T modes nt callK ops fps rid i st2 st2' ∧ (∀ s, st2'.env s = if isDst o s then st'.env s else st2.env s) ∧ (∀ r, st2'.rows r = if wrFoot (footAt fps i) (keyAt rid i) r then st'.rows r else st2.rows r) := by
 intro st2 he hr
 cases h with
 | run o' st0 ho' ha hd hl =>
   rw [ho] at ho'; cases ho'
   rw [← ask_same he] at ha
   rw [← cut_same (ops := ops) (o := o) he hr] at hd hl
   refine ⟨_, .run o st0 ho ha hd hl, fun s => ?_, fun r => ?_⟩
   ·simp only [joinSt]; cases isDst o s <;> simp
   ·simp only [joinSt]; cases wrFoot (footAt fps i) (keyAt rid i) r <;> simp
 | addr o' v ho' ha hp =>
   rw [ho] at ho'; cases ho'
   rw [← ask_same he] at ha
   rw [← ptrOp_same (ops := ops) he] at hp
   refine ⟨_, .addr o v ho ha hp, fun s => ?_, fun r => ?_⟩
   ·simp only [putDst_at]; cases isDst o s <;> simp
   ·simp only
    cases hw : wrFoot (footAt fps i) (keyAt rid i) r with
    | false => simp
    | true => simp [hr r (by simp [inFoot, hw])]
 | skip o' ho' ha =>
   rw [ho] at ho'; cases ho'
   rw [← ask_same he] at ha
   refine ⟨_, .skip o ho ha, fun s => ?_, fun r => ?_⟩
   ·simp only [putDst_none]; cases isDst o s <;> simp
   ·simp only
    cases hw : wrFoot (footAt fps i) (keyAt rid i) r with
    | false => simp
    | true => simp [hr r (by simp [inFoot, hw])]

/-- Two that do not meet: the second one goes as well first. -/
theorem goes_swap {i j : Nat} (hij : apartOps ops fps rid i j = true) {st st1 st2 : St} (h1 : Goes1 T modes nt callK ops fps rid i st st1) (h2 : Goes1 T modes nt callK ops fps rid j st1 st2) :
  ∃ st1', Goes1 T modes nt callK ops fps rid j st st1' ∧ Goes1 T modes nt callK ops fps rid i st1' st2 := by
 unfold apartOps at hij
 split at hij
 ·rename_i x y hx hy
  simp only [Bool.and_eq_true] at hij
  obtain ⟨⟨⟨a1, a2⟩, a3⟩, a4⟩ := hij
  have outS : ∀ {u v : Oper} {fp : Foot} {key : Nat} {s s' : St}, slotsApart ops u v = true → OnlyAt fp key u s s' → ∀ t ∈ slotsOf ops v, s'.env t = s.env t := by
   intro u v fp key s s' hs ho t ht
   refine ho.env t ?_
   cases hd : isDst u t with
   | false => rfl
   | true => exact absurd ht (apart_dst hs (isDst_iff.1 hd)).1
  have outR : ∀ {fp fp' : Foot} {key key' : Nat} {u : Oper} {s s' : St}, awayFrom fp key fp' key' = true → OnlyAt fp key u s s' → ∀ r, inFoot fp' key' r = true → s'.rows r = s.rows r := by
   intro fp fp' key key' u s s' hs ho r hr
   refine ho.rows r ?_
   cases hw : wrFoot fp key r with
   | false => rfl
   | true => rw [away_out hs hw] at hr; cases hr
  have o1 := goes_only hx h1
  have o2 := goes_only hy h2
  obtain ⟨s2, g1, g2, g3⟩ := goes_any hy h2 st (fun s hs => (outS a1 o1 s hs).symm) (fun r hr => (outR a3 o1 r hr).symm)
  have o3 := goes_only hy g1
  obtain ⟨s3, f1, f2, f3⟩ := goes_any hx h1 s2 (outS a2 o3) (outR a4 o3)
  refine ⟨s2, g1, ?_⟩
  have e : st2 = s3 := by
   have ee : st2.env = s3.env := by
    funext s
    rw [f2]
    cases hdx : isDst x s with
    | true =>
      have : isDst y s = false := (apart_dst a1 (isDst_iff.1 hdx)).2
      simp only [if_true]
      exact o2.env s this
    | false =>
      simp only [Bool.false_eq_true, if_false]
      rw [g2]
      cases hdy : isDst y s with
      | true => simp
      | false => simp only [Bool.false_eq_true, if_false]; rw [o2.env s hdy, o1.env s hdx]
   have er : st2.rows = s3.rows := by
    funext r
    rw [f3]
    cases hwx : wrFoot (footAt fps i) (keyAt rid i) r with
    | true =>
      have : wrFoot (footAt fps j) (keyAt rid j) r = false := by
       have := away_out a3 hwx
       simp only [inFoot, Bool.or_eq_false_iff] at this
       exact this.1
      simp only [if_true]
      exact o2.rows r this
    | false =>
      simp only [Bool.false_eq_true, if_false]
      rw [g3]
      cases hwy : wrFoot (footAt fps j) (keyAt rid j) r with
      | true => simp
      | false => simp only [Bool.false_eq_true, if_false]; rw [o2.rows r hwy, o1.rows r hwx]
   cases st2; cases s3; simp_all
  rw [e]; exact f1
 ·cases hij
end
end Go.Proofs.YtoepnomdklhhlaaGreat.PM

/- The small machine PM is sound, part twelve and a half: regions whose order is open. -/
import Derived.Test.YtecnlienmpdlaaaPmL
set_option linter.unusedSimpArgs false
set_option linter.unusedVariables false
namespace Go.Proofs.Ytecnlienmpdlaaa.PM
open Go

/-! ### where a run leads -/
/-- Something that a run can hand on: whatever goes on behind it must be right there. -/
def Mem {A R : Type} (F : (A → Option R) → Option R) (y : A) : Prop := ∀ K r, F K = some r → K y = some r
/-- A run asks no more than that it goes on rightly from all that it can hand on. -/
structure Rch {A R : Type} (F : (A → Option R) → Option R) : Prop where
  all : ∀ K0 r0, F K0 = some r0 → ∀ K r, (∀ y, Mem F y → K y = some r) → F K = some r
  has : ∀ K r, F K = some r → ∃ y, Mem F y
theorem Rch.pure {A R : Type} (x : A) : Rch (R := R) fun K => K x :=
  ⟨fun K0 r0 h K r hK => hK x fun K' r' h' => h', fun K r h => ⟨x, fun K' r' h' => h'⟩⟩
theorem Rch.fail {A R : Type} : Rch (A := A) (R := R) fun _ => none :=
  ⟨fun K0 r0 h => (by cases h), fun K r h => (by cases h)⟩
theorem Rch.bind {A B R : Type} {G : (A → Option R) → Option R} {H : A → (B → Option R) → Option R} (hG : Rch G) (hH : ∀ x, Rch (H x)) : Rch fun K => G fun x => H x K := by
  refine ⟨fun K0 r0 h0 K r hK => ?_, fun K r h => ?_⟩
  · refine hG.all _ _ h0 _ _ fun x hx => ?_
    have h1 := hx _ _ h0
    refine (hH x).all _ _ h1 _ _ fun y hy => hK y fun K2 r2 h2 => ?_
    exact hy _ _ (hx _ _ h2)
  · obtain ⟨x, hx⟩ := hG.has _ _ h
    obtain ⟨y, hy⟩ := (hH x).has _ _ (hx _ _ h)
    exact ⟨y, fun K2 r2 h2 => hy _ _ (hx _ _ h2)⟩
theorem Rch.congr {A R : Type} {F G : (A → Option R) → Option R} (h : Rch G) (e : ∀ K, F K = G K) : Rch F := by
  have : F = G := funext e
  rw [this]; exact h
theorem Rch.allOf {A R : Type} (m : Nat) (x : Nat → A) : Rch (R := R) fun K => PM.allOf m fun i => K (x i) := by
  have hm : ∀ i, i ≤ m → Mem (R := R) (fun K => PM.allOf m fun i => K (x i)) (x i) := fun i hi K r h => allOf_iff.1 h i hi
  exact ⟨fun K0 r0 h K r hK => allOf_iff.2 fun i hi => hK _ (hm i hi), fun K r h => ⟨x 0, hm 0 (Nat.zero_le _)⟩⟩

/-- A call asks no more than that. -/
def Det {R : Type} (callK : Nat → List PV → List RowS → (List PV → List RowS → Option R) → Option R) : Prop :=
  ∀ g ws rs, Rch fun K : List PV × List RowS → Option R => callK g ws rs fun res rout => K (res, rout)

section
variable {T : TT} {modes : Nat → List Mode} {nt : Nat} {R : Type} {callK : Nat → List PV → List RowS → (List PV → List RowS → Option R) → Option R}

theorem doOp_det (hn : Det callK) (key : Nat) (o : Oper) (st : St) : Rch fun K => doOp T modes nt callK key o st K := by
  unfold doOp
  split
  · rename_i f as ats ho
    split
    · rename_i g caps vs hf hvs
      split
      · rename_i p hp
        refine (hn g p.args p.rowsIn).bind (H := fun (x : List PV × List RowS) (K : St → Option R) => match done key p x.1 x.2 with
          | some out => if freeAll p.rows p.ids.length out.upd then (bif out.ok then K ⟨putDst nt st.env o.dst out.v, updAll p.rows out.upd⟩ else none) else none
          | none => none) fun x => ?_
        split
        · rename_i out hout
          split
          · cases out.ok
            · exact Rch.fail
            · exact Rch.pure _
          · exact Rch.fail
        · exact Rch.fail
      · exact Rch.fail
    · exact Rch.fail
  · split
    · split
      · exact Rch.allOf _ _
      · exact Rch.fail
    · exact Rch.fail
  · split
    · rename_i out hout
      split
      · cases out.ok
        · exact Rch.fail
        · exact Rch.pure _
      · exact Rch.fail
    · exact Rch.fail
end

/-! ### one operation of an open order, from state to state -/
section
variable (T : TT) (modes : Nat → List Mode) (nt : Nat) {R : Type} (callK : Nat → List PV → List RowS → (List PV → List RowS → Option R) → Option R) (ops : Array Oper) (fps : List Foot) (rid : Nat)

/-- Operation i leads from one state to another. -/
inductive Goes1 (i : Nat) (st : St) : St → Prop where
  | run (o : Oper) (st0 : St) (ho : ops[i]? = some o) (ha : askPM ops o st = some true) (hp : ptrOp T o st = none)
      (hd : Mem (fun K : St → Option R => doOp T modes nt callK (keyAt rid i) o (cutSt ops (footAt fps i) (keyAt rid i) o st) K) st0)
      (hl : localOk (footAt fps i) (keyAt rid i) o (cutSt ops (footAt fps i) (keyAt rid i) o st) st0 = true) : Goes1 i st (joinSt (footAt fps i) (keyAt rid i) o st st0)
  | addr (o : Oper) (v : PV) (ho : ops[i]? = some o) (ha : askPM ops o st = some true) (hp : ptrOp T o st = some v) : Goes1 i st ⟨putDst nt st.env o.dst (some v), st.rows⟩
  | skip (o : Oper) (ho : ops[i]? = some o) (ha : askPM ops o st = some false) : Goes1 i st ⟨putDst nt st.env o.dst none, st.rows⟩

/-- Operation i goes well from a state. -/
inductive Ok1 (i : Nat) (st : St) : Prop where
  | run (o : Oper) (K : St → Option R) (r : R) (ho : ops[i]? = some o) (ha : askPM ops o st = some true) (hp : ptrOp T o st = none)
      (hd : doOp T modes nt callK (keyAt rid i) o (cutSt ops (footAt fps i) (keyAt rid i) o st) K = some r)
      (hl : ∀ st0, Mem (fun K : St → Option R => doOp T modes nt callK (keyAt rid i) o (cutSt ops (footAt fps i) (keyAt rid i) o st) K) st0 →
        localOk (footAt fps i) (keyAt rid i) o (cutSt ops (footAt fps i) (keyAt rid i) o st) st0 = true) : Ok1 i st
  | addr (o : Oper) (v : PV) (ho : ops[i]? = some o) (ha : askPM ops o st = some true) (hp : ptrOp T o st = some v) : Ok1 i st
  | skip (o : Oper) (ho : ops[i]? = some o) (ha : askPM ops o st = some false) : Ok1 i st

/-- These operations, one behind the other, go well and lead to states that are right. -/
def AllL : List Nat → St → (St → Prop) → Prop
  | [], st, Q => Q st
  | i :: l, st, Q => Ok1 T modes nt callK ops fps rid i st ∧ ∀ st', Goes1 T modes nt callK ops fps rid i st st' → AllL l st' Q
end

section
variable {T : TT} {modes : Nat → List Mode} {nt : Nat} {R : Type} {callK : Nat → List PV → List RowS → (List PV → List RowS → Option R) → Option R} {ops : Array Oper} {fps : List Foot} {rid : Nat}

theorem upd_same {β : Type} (f : Nat → Option β) (a : Nat) (b : β) (h : f a = some b) : upd f a (some b) = f := by
  funext x
  rw [upd_at]
  split
  · rename_i e; subst e; exact h.symm
  · rfl
theorem drawOp_eq {fp : Foot} {key : Nat} {o : Oper} {st : St} {K : St → Option R} : drawOp T modes nt callK ops fp key o st K = drawOp0 T modes nt callK ops fp key o st K := by
  unfold drawOp drawOp0 askPM
  cases hg : o.guard with
  | none => rfl
  | some g =>
    obtain ⟨j, want⟩ := g
    simp only
    cases hd : (ops[j]?).bind (·.dst) with
    | none => rfl
    | some d =>
      simp only
      split
      · rename_i b hb
        cases hbw : (b == want) with
        | true =>
          have : b = want := by simpa using hbw
          subst this
          rw [show upd st.env d (some (mb b)) = st.env from upd_same _ _ _ hb]
          rfl
        | false =>
          have : b = !want := by cases b <;> cases want <;> simp at hbw ⊢
          subst this
          rw [show upd st.env d (some (mb (!want))) = st.env from upd_same _ _ _ hb]
          rfl
      · rfl
      · rfl

theorem drawOp_goes {i : Nat} {o : Oper} (ho : ops[i]? = some o) {st : St} {K : St → Option R} {r : R} (h : drawOp T modes nt callK ops (footAt fps i) (keyAt rid i) o st K = some r) :
    Ok1 T modes nt callK ops fps rid i st ∧ ∀ st', Goes1 T modes nt callK ops fps rid i st st' → K st' = some r := by
  rw [drawOp_eq] at h
  unfold drawOp0 at h
  split at h
  · rename_i b ha
    cases b with
    | true =>
      simp only [cond_true] at h
      unfold drawRun at h
      split at h
      · rename_i v hp
        refine ⟨.addr o v ho ha hp, fun st' hg => ?_⟩
        cases hg with
        | run o' st0 ho' ha' hp' hd hl => rw [ho] at ho'; cases ho'; rw [hp] at hp'; cases hp'
        | addr o' v' ho' ha' hp' => rw [ho] at ho'; cases ho'; rw [hp] at hp'; cases hp'; exact h
        | skip o' ho' ha' => rw [ho] at ho'; cases ho'; rw [ha] at ha'; cases ha'
      · rename_i hp
        have hm : ∀ st0, Mem (fun K : St → Option R => doOp T modes nt callK (keyAt rid i) o (cutSt ops (footAt fps i) (keyAt rid i) o st) K) st0 →
            localOk (footAt fps i) (keyAt rid i) o (cutSt ops (footAt fps i) (keyAt rid i) o st) st0 = true ∧ K (joinSt (footAt fps i) (keyAt rid i) o st st0) = some r := by
          intro st0 hm
          have h1 := hm _ _ h
          split at h1
          · rename_i hl; exact ⟨hl, h1⟩
          · cases h1
        refine ⟨.run o _ r ho ha hp h fun st0 h0 => (hm st0 h0).1, fun st' hg => ?_⟩
        cases hg with
        | run o' st0 ho' ha' hp' hd hl => rw [ho] at ho'; cases ho'; exact (hm st0 hd).2
        | addr o' v' ho' ha' hp' => rw [ho] at ho'; cases ho'; rw [hp] at hp'; cases hp'
        | skip o' ho' ha' => rw [ho] at ho'; cases ho'; rw [ha] at ha'; cases ha'
    | false =>
      simp only [cond_false] at h
      refine ⟨.skip o ho ha, fun st' hg => ?_⟩
      cases hg with
      | run o' st0 ho' ha' hp' hd hl => rw [ho] at ho'; cases ho'; rw [ha] at ha'; cases ha'
      | addr o' v' ho' ha' hp' => rw [ho] at ho'; cases ho'; rw [ha] at ha'; cases ha'
      | skip o' ho' ha' => rw [ho] at ho'; cases ho'; exact h
  · cases h

theorem doDraw_goes : ∀ {l : List Nat} {st : St} {K : St → Option R} {r : R}, doDraw T modes nt callK ops fps rid l st K = some r → AllL T modes nt callK ops fps rid l st fun s => K s = some r
  | [], st, K, r, h => h
  | i :: l, st, K, r, h => by
    simp only [doDraw] at h
    split at h
    · rename_i o ho
      obtain ⟨h1, h2⟩ := drawOp_goes ho h
      exact ⟨h1, fun st' hg => doDraw_goes (h2 st' hg)⟩
    · cases h

/-! ### two operations that do not meet -/
theorem isDst_iff {o : Oper} {s : Nat} : isDst o s = true ↔ o.dst = some s := by
  unfold isDst
  cases o.dst with
  | none => simp
  | some d => simp
theorem putDst_none {env : Env} {o : Oper} (s : Nat) : putDst nt env o.dst none s = if isDst o s then (if s < nt then some .und else none) else env s := by
  by_cases h : isDst o s = true
  · have hd := isDst_iff.1 h
    rw [if_pos h, hd]
    simp [putDst, upd_at]
  · rw [if_neg h]
    cases hd : o.dst with
    | none => rfl
    | some d =>
      have : s ≠ d := fun e => h (isDst_iff.2 (by rw [hd, e]))
      simp only [putDst, upd_at, if_neg this]

theorem putDst_at {env : Env} {o : Oper} {ov : Option PV} (s : Nat) : putDst nt env o.dst ov s = if isDst o s then (if s < nt then some (ov.getD .und) else none) else env s := by
  by_cases h : isDst o s = true
  · have hd := isDst_iff.1 h
    rw [if_pos h, hd]
    cases ov <;> simp [putDst, upd_at]
  · rw [if_neg h]
    cases hd : o.dst with
    | none => rfl
    | some d =>
      have : s ≠ d := fun e => h (isDst_iff.2 (by rw [hd, e]))
      cases ov <;> simp only [putDst, upd_at, if_neg this]

theorem apart_dst {x y : Oper} (h : slotsApart ops x y = true) {d : Nat} (hd : x.dst = some d) : d ∉ slotsOf ops y ∧ isDst y d = false := by
  unfold slotsApart at h
  rw [hd] at h
  simp only [Bool.and_eq_true, Bool.not_eq_true', List.any_eq_false, beq_iff_eq] at h
  exact ⟨fun hm => h.1 d hm rfl, h.2⟩

/-- Where a state has become another at an operation's slot and rows alone. -/
structure OnlyAt (fp : Foot) (key : Nat) (x : Oper) (st st' : St) : Prop where
  env : ∀ s, isDst x s = false → st'.env s = st.env s
  rows : ∀ r, wrFoot fp key r = false → st'.rows r = st.rows r

theorem join_only (fp : Foot) (key : Nat) (o : Oper) (st st0 : St) : OnlyAt fp key o st (joinSt fp key o st st0) :=
  ⟨fun s h => by simp [joinSt, h], fun r h => by simp [joinSt, h]⟩
theorem skip_only (fp : Foot) (key : Nat) (o : Oper) (st : St) : OnlyAt fp key o st ⟨putDst nt st.env o.dst none, st.rows⟩ :=
  ⟨fun s h => by show putDst nt st.env o.dst none s = _; rw [putDst_none, h]; simp, fun r h => rfl⟩
theorem addr_only (fp : Foot) (key : Nat) (o : Oper) (st : St) (v : PV) : OnlyAt fp key o st ⟨putDst nt st.env o.dst (some v), st.rows⟩ :=
  ⟨fun s h => by show putDst nt st.env o.dst (some v) s = _; rw [putDst_at, h]; simp, fun r h => rfl⟩
theorem goes_only {i : Nat} {o : Oper} (ho : ops[i]? = some o) {st st' : St} (h : Goes1 T modes nt callK ops fps rid i st st') : OnlyAt (footAt fps i) (keyAt rid i) o st st' := by
  cases h with
  | run o' st0 ho' ha hp hd hl => rw [ho] at ho'; cases ho'; exact join_only _ _ _ _ _
  | addr o' v ho' ha hp => rw [ho] at ho'; cases ho'; exact addr_only _ _ _ _ _
  | skip o' ho' ha => rw [ho] at ho'; cases ho'; exact skip_only _ _ _ _

theorem away_out {fp : Foot} {key : Nat} {fp' : Foot} {key' : Nat} (h : awayFrom fp key fp' key' = true) {r : Nat} (hr : wrFoot fp key r = true) : inFoot fp' key' r = false := by
  simp only [awayFrom, Bool.and_eq_true, Bool.not_eq_true', List.all_eq_true] at h
  obtain ⟨⟨h1, h2⟩, h3⟩ := h
  unfold wrFoot at hr
  rw [Bool.or_eq_true] at hr
  rcases hr with hr | hr
  · cases hi : inFoot fp' key' r with
    | false => rfl
    | true =>
      exfalso
      simp only [inFoot, wrFoot, Bool.or_eq_true] at hi
      rcases hi with (hi | hi) | hi
      · simp only [ownRow, beq_iff_eq] at hr hi
        simp [← hr, ← hi] at h3
      · obtain ⟨x, hx, e⟩ := List.any_eq_true.1 hi
        have := h2 x (List.mem_append_right _ hx)
        rw [beq_iff_eq] at e
        rw [e, hr] at this; cases this
      · obtain ⟨x, hx, e⟩ := List.any_eq_true.1 hi
        have := h2 x (List.mem_append_left _ hx)
        rw [beq_iff_eq] at e
        rw [e, hr] at this; cases this
  · obtain ⟨x, hx, e⟩ := List.any_eq_true.1 hr
    rw [beq_iff_eq] at e
    subst e
    exact h1 _ hx

theorem ask_same {o : Oper} {st st' : St} (h : ∀ s ∈ slotsOf ops o, st'.env s = st.env s) : askPM ops o st' = askPM ops o st := by
  unfold askPM
  cases hg : o.guard with
  | none => rfl
  | some g =>
    obtain ⟨j, want⟩ := g
    simp only
    cases hd : (ops[j]?).bind (·.dst) with
    | none => rfl
    | some d =>
      simp only
      rw [h d (by simp [slotsOf, hg, hd])]

theorem cut_same {fp : Foot} {key : Nat} {o : Oper} {st st' : St} (h : ∀ s ∈ slotsOf ops o, st'.env s = st.env s) (hr : ∀ r, inFoot fp key r = true → st'.rows r = st.rows r) : cutSt ops fp key o st' = cutSt ops fp key o st := by
  unfold cutSt
  congr 1
  · funext s
    split
    · rename_i hs
      obtain ⟨x, hx, e⟩ := List.any_eq_true.1 hs
      rw [beq_iff_eq] at e
      subst e
      exact h _ hx
    · rfl
  · funext r
    split
    · rename_i hi; exact hr r hi
    · rfl

theorem eq_goes {i : Nat} {st st' st'' : St} (h : Goes1 T modes nt callK ops fps rid i st st') (e : st'' = st') : Goes1 T modes nt callK ops fps rid i st st'' := e ▸ h

theorem ptrLook_same {st st' : St} {x : Operand} (h : ∀ t, x = .tmp t → st'.env t = st.env t) : ptrLook st' x = ptrLook st x := by
  cases x with
  | tmp t => simp only [ptrLook, h t rfl]
  | _ => rfl
theorem ptrLookM_same {st st' : St} {x : Operand} (h : ∀ t, x = .tmp t → st'.env t = st.env t) : ptrLookM st' x = ptrLookM st x := by
  cases x with
  | tmp t => simp only [ptrLookM, h t rfl]
  | _ => rfl
theorem ptrOp_same {o : Oper} {st st' : St} (h : ∀ s ∈ slotsOf ops o, st'.env s = st.env s) : ptrOp T o st' = ptrOp T o st := by
  have hx : ∀ x : Operand, x ∈ o.op.operands → ptrLook st' x = ptrLook st x := by
    intro x hx
    refine ptrLook_same fun t e => h t ?_
    subst e
    exact List.mem_append_left _ (List.mem_filterMap.2 ⟨.tmp t, by simpa using hx, rfl⟩)
  have hm : ∀ x : Operand, x ∈ o.op.operands → ptrLookM st' x = ptrLookM st x := by
    intro x hx
    refine ptrLookM_same fun t e => h t ?_
    subst e
    exact List.mem_append_left _ (List.mem_filterMap.2 ⟨.tmp t, by simpa using hx, rfl⟩)
  unfold ptrOp
  cases hop : o.op with
  | move x => exact hm x (by simp [hop, Op.operands])
  | assign x => exact hm x (by simp [hop, Op.operands])
  | nilCheck x => exact hx x (by simp [hop, Op.operands])
  | fieldAddr s x f => simp only [opOut, hx x (by simp [hop, Op.operands])]
  | _ => rfl

/-- What an operation leaves in its own slot and rows. -/
structure Leaves (fp : Foot) (key : Nat) (o : Oper) (f : Nat → Option PV) (g : Nat → Option RowS) (st st' : St) : Prop where
  env : ∀ s, st'.env s = if isDst o s then f s else st.env s
  rows : ∀ r, st'.rows r = if wrFoot fp key r then g r else st.rows r

/-- Out of any state that looks the same to it an operation leaves the same. -/
theorem goes_any {i : Nat} {o : Oper} (ho : ops[i]? = some o) {st st' : St} (h : Goes1 T modes nt callK ops fps rid i st st') :
    ∀ st2, (∀ s ∈ slotsOf ops o, st2.env s = st.env s) → (∀ r, inFoot (footAt fps i) (keyAt rid i) r = true → st2.rows r = st.rows r) →
      ∃ st2', Goes1 T modes nt callK ops fps rid i st2 st2' ∧ (∀ s, st2'.env s = if isDst o s then st'.env s else st2.env s) ∧ (∀ r, st2'.rows r = if wrFoot (footAt fps i) (keyAt rid i) r then st'.rows r else st2.rows r) := by
  intro st2 he hr
  cases h with
  | run o' st0 ho' ha hp hd hl =>
    rw [ho] at ho'; cases ho'
    rw [← ask_same he] at ha
    rw [← ptrOp_same (ops := ops) he] at hp
    rw [← cut_same (ops := ops) (o := o) he hr] at hd hl
    refine ⟨_, .run o st0 ho ha hp hd hl, fun s => ?_, fun r => ?_⟩
    · simp only [joinSt]; cases isDst o s <;> simp
    · simp only [joinSt]; cases wrFoot (footAt fps i) (keyAt rid i) r <;> simp
  | addr o' v ho' ha hp =>
    rw [ho] at ho'; cases ho'
    rw [← ask_same he] at ha
    rw [← ptrOp_same (ops := ops) he] at hp
    refine ⟨_, .addr o v ho ha hp, fun s => ?_, fun r => ?_⟩
    · simp only [putDst_at]; cases isDst o s <;> simp
    · simp only
      cases hw : wrFoot (footAt fps i) (keyAt rid i) r with
      | false => simp
      | true => simp [hr r (by simp [inFoot, hw])]
  | skip o' ho' ha =>
    rw [ho] at ho'; cases ho'
    rw [← ask_same he] at ha
    refine ⟨_, .skip o ho ha, fun s => ?_, fun r => ?_⟩
    · simp only [putDst_none]; cases isDst o s <;> simp
    · simp only
      cases hw : wrFoot (footAt fps i) (keyAt rid i) r with
      | false => simp
      | true => simp [hr r (by simp [inFoot, hw])]

/-- Out of any state that looks the same to it an operation goes as well. -/
theorem ok_any {i : Nat} {o : Oper} (ho : ops[i]? = some o) {st st2 : St} (h : Ok1 T modes nt callK ops fps rid i st) (he : ∀ s ∈ slotsOf ops o, st2.env s = st.env s) (hr : ∀ r, inFoot (footAt fps i) (keyAt rid i) r = true → st2.rows r = st.rows r) :
    Ok1 T modes nt callK ops fps rid i st2 := by
  cases h with
  | run o' K r ho' ha hp hd hl =>
    rw [ho] at ho'; cases ho'
    rw [← ask_same he] at ha
    rw [← ptrOp_same (ops := ops) he] at hp
    rw [← cut_same (ops := ops) (o := o) he hr] at hd hl
    exact .run o K r ho ha hp hd hl
  | addr o' v ho' ha hp =>
    rw [ho] at ho'; cases ho'
    rw [← ask_same he] at ha
    rw [← ptrOp_same (ops := ops) he] at hp
    exact .addr o v ho ha hp
  | skip o' ho' ha =>
    rw [ho] at ho'; cases ho'
    rw [← ask_same he] at ha
    exact .skip o ho ha

theorem out_slots {u v : Oper} {fp : Foot} {key : Nat} {s s' : St} (hs : slotsApart ops u v = true) (ho : OnlyAt fp key u s s') : ∀ t ∈ slotsOf ops v, s'.env t = s.env t := by
  intro t ht
  refine ho.env t ?_
  cases hd : isDst u t with
  | false => rfl
  | true => exact absurd ht (apart_dst hs (isDst_iff.1 hd)).1
theorem out_rows {fp fp' : Foot} {key key' : Nat} {u : Oper} {s s' : St} (hs : awayFrom fp key fp' key' = true) (ho : OnlyAt fp key u s s') : ∀ r, inFoot fp' key' r = true → s'.rows r = s.rows r := by
  intro r hr
  refine ho.rows r ?_
  cases hw : wrFoot fp key r with
  | false => rfl
  | true => rw [away_out hs hw] at hr; cases hr

/-- Two that do not meet: behind the first one the second one goes just if it goes ahead of it. -/
theorem ok_swap {i j : Nat} (hij : apartOps ops fps rid i j = true) {st st1 : St} (h1 : Goes1 T modes nt callK ops fps rid i st st1) : Ok1 T modes nt callK ops fps rid j st1 ↔ Ok1 T modes nt callK ops fps rid j st := by
  unfold apartOps at hij
  split at hij
  · rename_i x y hx hy
    simp only [Bool.and_eq_true] at hij
    obtain ⟨⟨⟨a1, a2⟩, a3⟩, a4⟩ := hij
    have o1 := goes_only hx h1
    have e1 := out_slots (ops := ops) a1 o1
    have e2 := out_rows a3 o1
    exact ⟨fun h => ok_any hy h (fun s hs => (e1 s hs).symm) (fun r hr => (e2 r hr).symm), fun h => ok_any hy h e1 e2⟩
  · cases hij
theorem apart_comm {i j : Nat} (h : apartOps ops fps rid i j = true) : apartOps ops fps rid j i = true := by
  unfold apartOps at h ⊢
  cases hx : ops[i]? with
  | none => rw [hx] at h; simp at h
  | some x =>
    cases hy : ops[j]? with
    | none => rw [hx, hy] at h; simp at h
    | some y =>
      rw [hx, hy] at h
      simp only [Bool.and_eq_true] at h ⊢
      obtain ⟨⟨⟨a1, a2⟩, a3⟩, a4⟩ := h
      exact ⟨⟨⟨a2, a1⟩, a4⟩, a3⟩

/-- Two that do not meet: the second one goes as well first. -/
theorem goes_swap {i j : Nat} (hij : apartOps ops fps rid i j = true) {st st1 st2 : St} (h1 : Goes1 T modes nt callK ops fps rid i st st1) (h2 : Goes1 T modes nt callK ops fps rid j st1 st2) :
    ∃ st1', Goes1 T modes nt callK ops fps rid j st st1' ∧ Goes1 T modes nt callK ops fps rid i st1' st2 := by
  unfold apartOps at hij
  split at hij
  · rename_i x y hx hy
    simp only [Bool.and_eq_true] at hij
    obtain ⟨⟨⟨a1, a2⟩, a3⟩, a4⟩ := hij
    have outS : ∀ {u v : Oper} {fp : Foot} {key : Nat} {s s' : St}, slotsApart ops u v = true → OnlyAt fp key u s s' → ∀ t ∈ slotsOf ops v, s'.env t = s.env t := by
      intro u v fp key s s' hs ho t ht
      refine ho.env t ?_
      cases hd : isDst u t with
      | false => rfl
      | true => exact absurd ht (apart_dst hs (isDst_iff.1 hd)).1
    have outR : ∀ {fp fp' : Foot} {key key' : Nat} {u : Oper} {s s' : St}, awayFrom fp key fp' key' = true → OnlyAt fp key u s s' → ∀ r, inFoot fp' key' r = true → s'.rows r = s.rows r := by
      intro fp fp' key key' u s s' hs ho r hr
      refine ho.rows r ?_
      cases hw : wrFoot fp key r with
      | false => rfl
      | true => rw [away_out hs hw] at hr; cases hr
    have o1 := goes_only hx h1
    have o2 := goes_only hy h2
    obtain ⟨s2, g1, g2, g3⟩ := goes_any hy h2 st (fun s hs => (outS a1 o1 s hs).symm) (fun r hr => (outR a3 o1 r hr).symm)
    have o3 := goes_only hy g1
    obtain ⟨s3, f1, f2, f3⟩ := goes_any hx h1 s2 (outS a2 o3) (outR a4 o3)
    refine ⟨s2, g1, ?_⟩
    have e : st2 = s3 := by
      have ee : st2.env = s3.env := by
        funext s
        rw [f2]
        cases hdx : isDst x s with
        | true =>
          have : isDst y s = false := (apart_dst a1 (isDst_iff.1 hdx)).2
          simp only [if_true]
          exact o2.env s this
        | false =>
          simp only [Bool.false_eq_true, if_false]
          rw [g2]
          cases hdy : isDst y s with
          | true => simp
          | false => simp only [Bool.false_eq_true, if_false]; rw [o2.env s hdy, o1.env s hdx]
      have er : st2.rows = s3.rows := by
        funext r
        rw [f3]
        cases hwx : wrFoot (footAt fps i) (keyAt rid i) r with
        | true =>
          have : wrFoot (footAt fps j) (keyAt rid j) r = false := by
            have := away_out a3 hwx
            simp only [inFoot, Bool.or_eq_false_iff] at this
            exact this.1
          simp only [if_true]
          exact o2.rows r this
        | false =>
          simp only [Bool.false_eq_true, if_false]
          rw [g3]
          cases hwy : wrFoot (footAt fps j) (keyAt rid j) r with
          | true => simp
          | false => simp only [Bool.false_eq_true, if_false]; rw [o2.rows r hwy, o1.rows r hwx]
      cases st2; cases s3; simp_all
    rw [e]; exact f1
  · cases hij
end
end Go.Proofs.Ytecnlienmpdlaaa.PM

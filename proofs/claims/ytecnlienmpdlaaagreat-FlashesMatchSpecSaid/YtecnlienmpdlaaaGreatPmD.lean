import Derived.Test.YtecnlienmpdlaaaGreatPmH
set_option linter.unusedSimpArgs false
set_option linter.unusedVariables false
namespace Go.Proofs.YtecnlienmpdlaaaGreat.PM
open Go
def Mem {A R : Type} (F : (A → Oq R) → Oq R) (y : A) : Prop := ∀ K r, F K = some r → K y = some r
structure Rch {A R : Type} (F : (A → Oq R) → Oq R) : Prop where
 all : ∀ K0 r0, F K0 = some r0 → ∀ K r, (∀ y, Mem F y → K y = some r) → F K = some r
 has : ∀ K r, F K = some r → ∃ y, Mem F y
theorem Rch.pure {A R : Type} (x : A) : Rch (R := R) fun K => K x :=
 ⟨fun K0 r0 h K r hK => hK x fun K' r' h' => h', fun K r h => ⟨x, fun K' r' h' => h'⟩⟩
theorem Rch.fail {A R : Type} : Rch (A := A) (R := R) fun _ => none :=
 ⟨fun K0 r0 h => (by cases h), fun K r h => (by cases h)⟩
theorem Rch.bind {A B R : Type} {G : (A → Oq R) → Oq R} {H : A → (B → Oq R) → Oq R} (hG : Rch G) (hH : ∀ x, Rch (H x)) : Rch fun K => G fun x => H x K := by
 refine ⟨fun K0 r0 h0 K r hK => ?_, fun K r h => ?_⟩
 ·refine hG.all _ _ h0 _ _ fun x hx => ?_
  have h1 := hx _ _ h0
  refine (hH x).all _ _ h1 _ _ fun y hy => hK y fun K2 r2 h2 => ?_
  exact hy _ _ (hx _ _ h2)
 ·obtain ⟨x, hx⟩ := hG.has _ _ h
  obtain ⟨y, hy⟩ := (hH x).has _ _ (hx _ _ h)
  exact ⟨y, fun K2 r2 h2 => hy _ _ (hx _ _ h2)⟩
theorem Rch.congr {A R : Type} {F G : (A → Oq R) → Oq R} (h : Rch G) (e : ∀ K, F K = G K) : Rch F := by
 have : F = G := funext e
 rw [this]; exact h
theorem Rch.allOf {A R : Type} (m : Nat) (x : Nat → A) : Rch (R := R) fun K => PM.allOf m fun i => K (x i) := by
 have hm : ∀ i, i ≤ m → Mem (R := R) (fun K => PM.allOf m fun i => K (x i)) (x i) := fun i hi K r h => Q4c.1 h i hi
 exact ⟨fun K0 r0 h K r hK => Q4c.2 fun i hi => hK _ (hm i hi), fun K r h => ⟨x 0, hm 0 (Nat.zero_le _)⟩⟩
def Det {R : Type} (callK : Nat → List PV → List RowS → (List PV → List RowS → Oq R) → Oq R) : Prop :=
 ∀ g ws rs, Rch fun K : List PV × List RowS → Oq R => callK g ws rs fun res rout => K (res, rout)
section
variable {T : TT} {modes : Nat → List Mode} {nt : Nat} {R : Type} {callK : Nat → List PV → List RowS → (List PV → List RowS → Oq R) → Oq R}
theorem Q7w (hn : Det callK) (key : Nat) (o : Oper) (st : St) : Rch fun K => doOp T modes nt callK key o st K := by
 unfold doOp
 split
 ·rename_i f as ats ho
  split
  ·rename_i g caps vs hf hvs
   split
   ·rename_i p hp
    refine (hn g p.args p.rowsIn).bind (H := fun (x : List PV × List RowS) (K : St → Oq R) => match done key p x.1 x.2 with
     | some out => if Q77 p.rows p.ids.length out.upd then (bif out.ok then K ⟨putDst nt st.env o.dst out.v, updAll p.rows out.upd⟩ else none) else none
     | none => none) fun x => ?_
    split
    ·rename_i out hout
     split
     ·cases out.ok
      ·exact Rch.fail
      ·exact Rch.pure _
     ·exact Rch.fail
    ·exact Rch.fail
   ·exact Rch.fail
  ·exact Rch.fail
 ·split
  ·split
   ·exact Rch.allOf _ _
   ·exact Rch.fail
  ·exact Rch.fail
 ·split
  ·rename_i out hout
   split
   ·cases out.ok
    ·exact Rch.fail
    ·exact Rch.pure _
   ·exact Rch.fail
  ·exact Rch.fail
end
section
variable (T : TT) (modes : Nat → List Mode) (nt : Nat) {R : Type} (callK : Nat → List PV → List RowS → (List PV → List RowS → Oq R) → Oq R) (ops : Array Oper) (fps : List Foot) (rid : Nat)
inductive Goes1 (i : Nat) (st : St) : St → Prop where
 | run (o : Oper) (st0 : St) (ho : ops[i]? = some o) (ha : askPM ops o st = some true) (hp : ptrOp T o st = none)
   (hd : Mem (fun K : St → Oq R => doOp T modes nt callK (keyAt rid i) o (cutSt ops (footAt fps i) (keyAt rid i) o st) K) st0)
   (hl : Q5l (footAt fps i) (keyAt rid i) o (cutSt ops (footAt fps i) (keyAt rid i) o st) st0 = true) : Goes1 i st (joinSt (footAt fps i) (keyAt rid i) o st st0)
 | addr (o : Oper) (v : PV) (ho : ops[i]? = some o) (ha : askPM ops o st = some true) (hp : ptrOp T o st = some v) : Goes1 i st ⟨putDst nt st.env o.dst (some v), st.rows⟩
 | skip (o : Oper) (ho : ops[i]? = some o) (ha : askPM ops o st = some false) : Goes1 i st ⟨putDst nt st.env o.dst none, st.rows⟩
inductive Ok1 (i : Nat) (st : St) : Prop where
 | run (o : Oper) (K : St → Oq R) (r : R) (ho : ops[i]? = some o) (ha : askPM ops o st = some true) (hp : ptrOp T o st = none)
   (hd : doOp T modes nt callK (keyAt rid i) o (cutSt ops (footAt fps i) (keyAt rid i) o st) K = some r)
   (hl : ∀ st0, Mem (fun K : St → Oq R => doOp T modes nt callK (keyAt rid i) o (cutSt ops (footAt fps i) (keyAt rid i) o st) K) st0 →
    Q5l (footAt fps i) (keyAt rid i) o (cutSt ops (footAt fps i) (keyAt rid i) o st) st0 = true) : Ok1 i st
 | addr (o : Oper) (v : PV) (ho : ops[i]? = some o) (ha : askPM ops o st = some true) (hp : ptrOp T o st = some v) : Ok1 i st
 | skip (o : Oper) (ho : ops[i]? = some o) (ha : askPM ops o st = some false) : Ok1 i st
def AllL : List Nat → St → (St → Prop) → Prop
 | [], st, Q => Q st
 | i :: l, st, Q => Ok1 T modes nt callK ops fps rid i st ∧ ∀ st', Goes1 T modes nt callK ops fps rid i st st' → AllL l st' Q
end
section
variable {T : TT} {modes : Nat → List Mode} {nt : Nat} {R : Type} {callK : Nat → List PV → List RowS → (List PV → List RowS → Oq R) → Oq R} {ops : Array Oper} {fps : List Foot} {rid : Nat}
theorem Qt8 {β : Type} (f : Nat → Option β) (a : Nat) (b : β) (h : f a = some b) : upd f a (some b) = f := by
 funext x
 rw [Q8]
 split
 ·rename_i e; subst e; exact h.symm
 ·rfl
theorem Qkc {fp : Foot} {key : Nat} {o : Oper} {st : St} {K : St → Oq R} : drawOp T modes nt callK ops fp key o st K = Qbo T modes nt callK ops fp key o st K := by
 unfold drawOp Qbo askPM
 cases hg : o.guard with
 | none => rfl
 | some g =>
   obtain ⟨j, want⟩ := g
   simp only
   cases hd : (ops[j]?).bind (·.dst) with
   | none => rfl
   | some d =>
     simp only
     split
     ·rename_i b hb
      cases hbw : (b == want) with
      | true =>
        have : b = want := by simpa using hbw
        subst this
        rw [show upd st.env d (some (mb b)) = st.env from Qt8 _ _ _ hb]
        rfl
      | false =>
        have : b = !want := by cases b <;> cases want <;> simp at hbw ⊢
        subst this
        rw [show upd st.env d (some (mb (!want))) = st.env from Qt8 _ _ _ hb]
        rfl
     ·rfl
     ·rfl
theorem Qni {i : Nat} {o : Oper} (ho : ops[i]? = some o) {st : St} {K : St → Oq R} {r : R} (h : drawOp T modes nt callK ops (footAt fps i) (keyAt rid i) o st K = some r) :
  Ok1 T modes nt callK ops fps rid i st ∧ ∀ st', Goes1 T modes nt callK ops fps rid i st st' → K st' = some r := by
 rw [Qkc] at h
 unfold Qbo at h
 split at h
 ·rename_i b ha
  cases b with
  | true =>
    simp only [cond_true] at h
    unfold Q4k at h
    split at h
    ·rename_i v hp
     refine ⟨.addr o v ho ha hp, fun st' hg => ?_⟩
     cases hg with
     | run o' st0 ho' ha' hp' hd hl => rw [ho] at ho'; cases ho'; rw [hp] at hp'; cases hp'
     | addr o' v' ho' ha' hp' => rw [ho] at ho'; cases ho'; rw [hp] at hp'; cases hp'; exact h
     | skip o' ho' ha' => rw [ho] at ho'; cases ho'; rw [ha] at ha'; cases ha'
    ·rename_i hp
     have hm : ∀ st0, Mem (fun K : St → Oq R => doOp T modes nt callK (keyAt rid i) o (cutSt ops (footAt fps i) (keyAt rid i) o st) K) st0 →
      Q5l (footAt fps i) (keyAt rid i) o (cutSt ops (footAt fps i) (keyAt rid i) o st) st0 = true ∧ K (joinSt (footAt fps i) (keyAt rid i) o st st0) = some r := by
      intro st0 hm
      have h1 := hm _ _ h
      split at h1
      ·rename_i hl; exact ⟨hl, h1⟩
      ·cases h1
     refine ⟨.run o _ r ho ha hp h fun st0 h0 => (hm st0 h0).1, fun st' hg => ?_⟩
     cases hg with
     | run o' st0 ho' ha' hp' hd hl => rw [ho] at ho'; cases ho'; exact (hm st0 hd).2
     | addr o' v' ho' ha' hp' => rw [ho] at ho'; cases ho'; rw [hp] at hp'; cases hp'
     | skip o' ho' ha' => rw [ho] at ho'; cases ho'; rw [ha] at ha'; cases ha'
  | false =>
    simp only [cond_false] at h
    refine ⟨.skip o ho ha, fun st' hg => ?_⟩
    cases hg with
    | run o' st0 ho' ha' hp' hd hl => rw [ho] at ho'; cases ho'; rw [ha] at ha'; cases ha'
    | addr o' v' ho' ha' hp' => rw [ho] at ho'; cases ho'; rw [ha] at ha'; cases ha'
    | skip o' ho' ha' => rw [ho] at ho'; cases ho'; exact h
 ·cases h
theorem Qbm : ∀ {l : List Nat} {st : St} {K : St → Oq R} {r : R}, doDraw T modes nt callK ops fps rid l st K = some r → AllL T modes nt callK ops fps rid l st fun s => K s = some r
 | [], st, K, r, h => h
 | i :: l, st, K, r, h => by
   simp only [doDraw] at h
   split at h
   ·rename_i o ho
    obtain ⟨h1, h2⟩ := Qni ho h
    exact ⟨h1, fun st' hg => Qbm (h2 st' hg)⟩
   ·cases h
theorem Q23 {o : Oper} {s : Nat} : isDst o s = true ↔ o.dst = some s := by
 unfold isDst
 cases o.dst with
 | none => simp
 | some d => simp
theorem Qcz {env : Env} {o : Oper} (s : Nat) : putDst nt env o.dst none s = if isDst o s then (if s < nt then some .und else none) else env s := by
 by_cases h : isDst o s = true
 ·have hd := Q23.1 h
  rw [if_pos h, hd]
  simp [putDst, Q8]
 ·rw [if_neg h]
  cases hd : o.dst with
  | none => rfl
  | some d =>
    have : s ≠ d := fun e => h (Q23.2 (by rw [hd, e]))
    simp only [putDst, Q8, if_neg this]
theorem Qma {env : Env} {o : Oper} {ov : Option PV} (s : Nat) : putDst nt env o.dst ov s = if isDst o s then (if s < nt then some (ov.getD .und) else none) else env s := by
 by_cases h : isDst o s = true
 ·have hd := Q23.1 h
  rw [if_pos h, hd]
  cases ov <;> simp [putDst, Q8]
 ·rw [if_neg h]
  cases hd : o.dst with
  | none => rfl
  | some d =>
    have : s ≠ d := fun e => h (Q23.2 (by rw [hd, e]))
    cases ov <;> simp only [putDst, Q8, if_neg this]
theorem Qbc {x y : Oper} (h : Q2x ops x y = true) {d : Nat} (hd : x.dst = some d) : d ∉ Q2o ops y ∧ isDst y d = false := by
 unfold Q2x at h
 rw [hd] at h
 simp only [Bool.and_eq_true, Bool.not_eq_true', List.any_eq_false, beq_iff_eq] at h
 exact ⟨fun hm => h.1 d hm rfl, h.2⟩
structure OnlyAt (fp : Foot) (key : Nat) (x : Oper) (st st' : St) : Prop where
 env : ∀ s, isDst x s = false → st'.env s = st.env s
 rows : ∀ r, wrFoot fp key r = false → st'.rows r = st.rows r
theorem Q13p (fp : Foot) (key : Nat) (o : Oper) (st st0 : St) : OnlyAt fp key o st (joinSt fp key o st st0) :=
 ⟨fun s h => by simp [joinSt, h], fun r h => by simp [joinSt, h]⟩
theorem Q14s (fp : Foot) (key : Nat) (o : Oper) (st : St) : OnlyAt fp key o st ⟨putDst nt st.env o.dst none, st.rows⟩ :=
 ⟨fun s h => by show putDst nt st.env o.dst none s = _; rw [Qcz, h]; simp, fun r h => rfl⟩
theorem Qyu (fp : Foot) (key : Nat) (o : Oper) (st : St) (v : PV) : OnlyAt fp key o st ⟨putDst nt st.env o.dst (some v), st.rows⟩ :=
 ⟨fun s h => by show putDst nt st.env o.dst (some v) s = _; rw [Qma, h]; simp, fun r h => rfl⟩
theorem Q8a {i : Nat} {o : Oper} (ho : ops[i]? = some o) {st st' : St} (h : Goes1 T modes nt callK ops fps rid i st st') : OnlyAt (footAt fps i) (keyAt rid i) o st st' := by
 cases h with
 | run o' st0 ho' ha hp hd hl => rw [ho] at ho'; cases ho'; exact Q13p _ _ _ _ _
 | addr o' v ho' ha hp => rw [ho] at ho'; cases ho'; exact Qyu _ _ _ _ _
 | skip o' ho' ha => rw [ho] at ho'; cases ho'; exact Q14s _ _ _ _
theorem Qgt {fp : Foot} {key : Nat} {fp' : Foot} {key' : Nat} (h : Q69 fp key fp' key' = true) {r : Nat} (hr : wrFoot fp key r = true) : inFoot fp' key' r = false := by
 simp only [Q69, Bool.and_eq_true, Bool.not_eq_true', List.all_eq_true] at h
 obtain ⟨⟨h1, h2⟩, h3⟩ := h
 unfold wrFoot at hr
 rw [Bool.or_eq_true] at hr
 rcases hr with hr | hr
 ·cases hi : inFoot fp' key' r with
  | false => rfl
  | true =>
    exfalso
    simp only [inFoot, wrFoot, Bool.or_eq_true] at hi
    rcases hi with (hi | hi) | hi
    ·simp only [ownRow, beq_iff_eq] at hr hi
     simp [← hr, ← hi] at h3
    ·obtain ⟨x, hx, e⟩ := List.any_eq_true.1 hi
     have := h2 x (List.mem_append_right _ hx)
     rw [beq_iff_eq] at e
     rw [e, hr] at this; cases this
    ·obtain ⟨x, hx, e⟩ := List.any_eq_true.1 hi
     have := h2 x (List.mem_append_left _ hx)
     rw [beq_iff_eq] at e
     rw [e, hr] at this; cases this
 ·obtain ⟨x, hx, e⟩ := List.any_eq_true.1 hr
  rw [beq_iff_eq] at e
  subst e
  exact h1 _ hx
theorem Q68 {o : Oper} {st st' : St} (h : ∀ s ∈ Q2o ops o, st'.env s = st.env s) : askPM ops o st' = askPM ops o st := by
 unfold askPM
 cases hg : o.guard with
 | none => rfl
 | some g =>
   obtain ⟨j, want⟩ := g
   simp only
   cases hd : (ops[j]?).bind (·.dst) with
   | none => rfl
   | some d =>
     simp only
     rw [h d (by simp [Q2o, hg, hd])]
theorem Qqs {fp : Foot} {key : Nat} {o : Oper} {st st' : St} (h : ∀ s ∈ Q2o ops o, st'.env s = st.env s) (hr : ∀ r, inFoot fp key r = true → st'.rows r = st.rows r) : cutSt ops fp key o st' = cutSt ops fp key o st := by
 unfold cutSt
 congr 1
 ·funext s
  split
  ·rename_i hs
   obtain ⟨x, hx, e⟩ := List.any_eq_true.1 hs
   rw [beq_iff_eq] at e
   subst e
   exact h _ hx
  ·rfl
 ·funext r
  split
  ·rename_i hi; exact hr r hi
  ·rfl
theorem Qm9 {st st' : St} {x : Operand} (h : ∀ t, x = .tmp t → st'.env t = st.env t) : Q34 st' x = Q34 st x := by
 cases x with
 | tmp t => simp only [Q34, h t rfl]
 | _ => rfl
theorem Qj1 {st st' : St} {x : Operand} (h : ∀ t, x = .tmp t → st'.env t = st.env t) : Q3b st' x = Q3b st x := by
 cases x with
 | tmp t => simp only [Q3b, h t rfl]
 | _ => rfl
theorem Q6l {o : Oper} {st st' : St} (h : ∀ s ∈ Q2o ops o, st'.env s = st.env s) : ptrOp T o st' = ptrOp T o st := by
 have hx : ∀ x : Operand, x ∈ o.op.operands → Q34 st' x = Q34 st x := by
  intro x hx
  refine Qm9 fun t e => h t ?_
  subst e
  exact List.mem_append_left _ (List.mem_filterMap.2 ⟨.tmp t, by simpa using hx, rfl⟩)
 have hm : ∀ x : Operand, x ∈ o.op.operands → Q3b st' x = Q3b st x := by
  intro x hx
  refine Qj1 fun t e => h t ?_
  subst e
  exact List.mem_append_left _ (List.mem_filterMap.2 ⟨.tmp t, by simpa using hx, rfl⟩)
 unfold ptrOp
 cases hop : o.op with
 | move x => exact hm x (by simp [hop, Op.operands])
 | assign x => exact hm x (by simp [hop, Op.operands])
 | nilCheck x => exact hx x (by simp [hop, Op.operands])
 | fieldAddr s x f => simp only [opOut, hx x (by simp [hop, Op.operands])]
 | _ => rfl
theorem Qsd {i : Nat} {o : Oper} (ho : ops[i]? = some o) {st st' : St} (h : Goes1 T modes nt callK ops fps rid i st st') :
  ∀ st2, (∀ s ∈ Q2o ops o, st2.env s = st.env s) → (∀ r, inFoot (footAt fps i) (keyAt rid i) r = true → st2.rows r = st.rows r) →
    ∃ st2', Goes1 T modes nt callK ops fps rid i st2 st2' ∧ (∀ s, st2'.env s = if isDst o s then st'.env s else st2.env s) ∧ (∀ r, st2'.rows r = if wrFoot (footAt fps i) (keyAt rid i) r then st'.rows r else st2.rows r) := by
 intro st2 he hr
 cases h with
 | run o' st0 ho' ha hp hd hl =>
   rw [ho] at ho'; cases ho'
   rw [← Q68 he] at ha
   rw [← Q6l (ops := ops) he] at hp
   rw [← Qqs (ops := ops) (o := o) he hr] at hd hl
   refine ⟨_, .run o st0 ho ha hp hd hl, fun s => ?_, fun r => ?_⟩
   ·simp only [joinSt]; cases isDst o s <;> simp
   ·simp only [joinSt]; cases wrFoot (footAt fps i) (keyAt rid i) r <;> simp
 | addr o' v ho' ha hp =>
   rw [ho] at ho'; cases ho'
   rw [← Q68 he] at ha
   rw [← Q6l (ops := ops) he] at hp
   refine ⟨_, .addr o v ho ha hp, fun s => ?_, fun r => ?_⟩
   ·simp only [Qma]; cases isDst o s <;> simp
   ·simp only
    cases hw : wrFoot (footAt fps i) (keyAt rid i) r with
    | false => simp
    | true => simp [hr r (by simp [inFoot, hw])]
 | skip o' ho' ha =>
   rw [ho] at ho'; cases ho'
   rw [← Q68 he] at ha
   refine ⟨_, .skip o ho ha, fun s => ?_, fun r => ?_⟩
   ·simp only [Qcz]; cases isDst o s <;> simp
   ·simp only
    cases hw : wrFoot (footAt fps i) (keyAt rid i) r with
    | false => simp
    | true => simp [hr r (by simp [inFoot, hw])]
theorem Q1aa {i : Nat} {o : Oper} (ho : ops[i]? = some o) {st st2 : St} (h : Ok1 T modes nt callK ops fps rid i st) (he : ∀ s ∈ Q2o ops o, st2.env s = st.env s) (hr : ∀ r, inFoot (footAt fps i) (keyAt rid i) r = true → st2.rows r = st.rows r) :
  Ok1 T modes nt callK ops fps rid i st2 := by
 cases h with
 | run o' K r ho' ha hp hd hl =>
   rw [ho] at ho'; cases ho'
   rw [← Q68 he] at ha
   rw [← Q6l (ops := ops) he] at hp
   rw [← Qqs (ops := ops) (o := o) he hr] at hd hl
   exact .run o K r ho ha hp hd hl
 | addr o' v ho' ha hp =>
   rw [ho] at ho'; cases ho'
   rw [← Q68 he] at ha
   rw [← Q6l (ops := ops) he] at hp
   exact .addr o v ho ha hp
 | skip o' ho' ha =>
   rw [ho] at ho'; cases ho'
   rw [← Q68 he] at ha
   exact .skip o ho ha
theorem Q14b {u v : Oper} {fp : Foot} {key : Nat} {s s' : St} (hs : Q2x ops u v = true) (ho : OnlyAt fp key u s s') : ∀ t ∈ Q2o ops v, s'.env t = s.env t := by
 intro t ht
 refine ho.env t ?_
 cases hd : isDst u t with
 | false => rfl
 | true => exact absurd ht (Qbc hs (Q23.1 hd)).1
theorem Q173 {fp fp' : Foot} {key key' : Nat} {u : Oper} {s s' : St} (hs : Q69 fp key fp' key' = true) (ho : OnlyAt fp key u s s') : ∀ r, inFoot fp' key' r = true → s'.rows r = s.rows r := by
 intro r hr
 refine ho.rows r ?_
 cases hw : wrFoot fp key r with
 | false => rfl
 | true => rw [Qgt hs hw] at hr; cases hr
theorem Q147 {i j : Nat} (hij : Q2e ops fps rid i j = true) {st st1 : St} (h1 : Goes1 T modes nt callK ops fps rid i st st1) : Ok1 T modes nt callK ops fps rid j st1 ↔ Ok1 T modes nt callK ops fps rid j st := by
 unfold Q2e at hij
 split at hij
 ·rename_i x y hx hy
  simp only [Bool.and_eq_true] at hij
  obtain ⟨⟨⟨a1, a2⟩, a3⟩, a4⟩ := hij
  have o1 := Q8a hx h1
  have e1 := Q14b (ops := ops) a1 o1
  have e2 := Q173 a3 o1
  exact ⟨fun h => Q1aa hy h (fun s hs => (e1 s hs).symm) (fun r hr => (e2 r hr).symm), fun h => Q1aa hy h e1 e2⟩
 ·cases hij
theorem Qe1 {i j : Nat} (h : Q2e ops fps rid i j = true) : Q2e ops fps rid j i = true := by
 unfold Q2e at h ⊢
 cases hx : ops[i]? with
 | none => rw [hx] at h; simp at h
 | some x =>
   cases hy : ops[j]? with
   | none => rw [hx, hy] at h; simp at h
   | some y =>
     rw [hx, hy] at h
     simp only [Bool.and_eq_true] at h ⊢
     obtain ⟨⟨⟨a1, a2⟩, a3⟩, a4⟩ := h
     exact ⟨⟨⟨a2, a1⟩, a4⟩, a3⟩
theorem Q13a {i j : Nat} (hij : Q2e ops fps rid i j = true) {st st1 st2 : St} (h1 : Goes1 T modes nt callK ops fps rid i st st1) (h2 : Goes1 T modes nt callK ops fps rid j st1 st2) :
  ∃ st1', Goes1 T modes nt callK ops fps rid j st st1' ∧ Goes1 T modes nt callK ops fps rid i st1' st2 := by
 unfold Q2e at hij
 split at hij
 ·rename_i x y hx hy
  simp only [Bool.and_eq_true] at hij
  obtain ⟨⟨⟨a1, a2⟩, a3⟩, a4⟩ := hij
  have outS : ∀ {u v : Oper} {fp : Foot} {key : Nat} {s s' : St}, Q2x ops u v = true → OnlyAt fp key u s s' → ∀ t ∈ Q2o ops v, s'.env t = s.env t := by
   intro u v fp key s s' hs ho t ht
   refine ho.env t ?_
   cases hd : isDst u t with
   | false => rfl
   | true => exact absurd ht (Qbc hs (Q23.1 hd)).1
  have outR : ∀ {fp fp' : Foot} {key key' : Nat} {u : Oper} {s s' : St}, Q69 fp key fp' key' = true → OnlyAt fp key u s s' → ∀ r, inFoot fp' key' r = true → s'.rows r = s.rows r := by
   intro fp fp' key key' u s s' hs ho r hr
   refine ho.rows r ?_
   cases hw : wrFoot fp key r with
   | false => rfl
   | true => rw [Qgt hs hw] at hr; cases hr
  have o1 := Q8a hx h1
  have o2 := Q8a hy h2
  obtain ⟨s2, g1, g2, g3⟩ := Qsd hy h2 st (fun s hs => (outS a1 o1 s hs).symm) (fun r hr => (outR a3 o1 r hr).symm)
  have o3 := Q8a hy g1
  obtain ⟨s3, f1, f2, f3⟩ := Qsd hx h1 s2 (outS a2 o3) (outR a4 o3)
  refine ⟨s2, g1, ?_⟩
  have e : st2 = s3 := by
   have ee : st2.env = s3.env := by
    funext s
    rw [f2]
    cases hdx : isDst x s with
    | true =>
      have : isDst y s = false := (Qbc a1 (Q23.1 hdx)).2
      simp only [if_true]
      exact o2.env s this
    | false =>
      simp only [Bool.false_eq_true, if_false]
      rw [g2]
      cases hdy : isDst y s with
      | true => simp
      | false => simp only [Bool.false_eq_true, if_false]; rw [o2.env s hdy, o1.env s hdx]
   have er : st2.rows = s3.rows := by
    funext r
    rw [f3]
    cases hwx : wrFoot (footAt fps i) (keyAt rid i) r with
    | true =>
      have : wrFoot (footAt fps j) (keyAt rid j) r = false := by
       have := Qgt a3 hwx
       simp only [inFoot, Bool.or_eq_false_iff] at this
       exact this.1
      simp only [if_true]
      exact o2.rows r this
    | false =>
      simp only [Bool.false_eq_true, if_false]
      rw [g3]
      cases hwy : wrFoot (footAt fps j) (keyAt rid j) r with
      | true => simp
      | false => simp only [Bool.false_eq_true, if_false]; rw [o2.rows r hwy, o1.rows r hwx]
   cases st2; cases s3; simp_all
  rw [e]; exact f1
 ·cases hij
end
noncomputable def Qt (fp : Foot) (key : Nat) (rows : Rows) : Rows := fun r => if inFoot fp key r then rows r else if r == 0 then none else some ⟨0, .gone⟩
theorem Q4h {fp : Foot} {key : Nat} {rows : Rows} {r : Nat} (h : inFoot fp key r = true) : Qt fp key rows r = rows r := by simp [Qt, h]
theorem Q8w {fp : Foot} {key : Nat} {rows : Rows} {r : Nat} (h : inFoot fp key r = false) (h0 : r ≠ 0) : Qt fp key rows r = some ⟨0, .gone⟩ := by simp [Qt, h, h0]
theorem Q1l {fp : Foot} {key : Nat} {rows : Rows} {r : Nat} {s : RowS} (h : Qt fp key rows r = some s) (hl : s.live) : inFoot fp key r = true ∧ rows r = some s := by
 cases hi : inFoot fp key r with
 | true => rw [Q4h hi] at h; exact ⟨rfl, h⟩
 | false =>
   by_cases h0 : r = 0
   ·subst h0; simp [Qt, hi] at h
   ·rw [Q8w hi h0] at h
    cases h
    exact absurd rfl hl
def Unread (fp : Foot) (key : Nat) (pl : Pl) (rows : Rows) (b : Nat) : Prop := ∃ r s o, rows r = some s ∧ s.live ∧ pl.at r b o ∧ inFoot fp key r = false
def cutPl (fp : Foot) (key : Nat) (pl : Pl) (rows : Rows) : Pl := ⟨pl.loc, fun b => pl.Z b ∨ Unread fp key pl rows b, fun b => pl.L b ∧ pl.Z b, pl.hid⟩
section
variable {fp : Foot} {key : Nat} {rows : Rows} {pl : Pl} {w : World}
theorem Q3l (h0 : rows 0 = none) : ∀ {p : Prov}, okProv (Qt fp key rows) p = true → okProv rows p = true ∧ ∀ q ∈ p, q.1 = 0 ∨ inFoot fp key q.1 = true := by
 intro p h
 have g := Q2l h
 have hin : ∀ q ∈ p, q.1 = 0 ∨ inFoot fp key q.1 = true := by
  intro q hq
  by_cases hz : q.1 = 0
  ·exact .inl hz
  ·cases hi : inFoot fp key q.1 with
   | true => exact .inr rfl
   | false => exact absurd rfl (g q hq _ (Q8w hi hz)).1
 refine ⟨Q33 fun q hq s hs => ?_, hin⟩
 rcases hin q hq with hz | hi
 ·rw [hz, h0] at hs; cases hs
 ·exact g q hq s (by rw [Q4h hi]; exact hs)
theorem Q6c {p : Prov} (h : ProvIn rows p) : ProvIn (Qt fp key rows) p := by
 intro q hq
 rcases h q hq with h | ⟨s, h1, h2, h3⟩
 ·exact .inl h
 ·cases hi : inFoot fp key q.1 with
  | true => exact .inr ⟨s, by rw [Q4h hi]; exact h1, h2, h3⟩
  | false =>
    by_cases hz : q.1 = 0
    ·exact .inl hz
    ·exact .inr ⟨_, Q8w hi hz, .inr rfl, trivial⟩
theorem Qau (h0 : rows 0 = none) {r : Nat} (h : rows r ≠ none) : Qt fp key rows r ≠ none := by
 cases hi : inFoot fp key r with
 | true => rw [Q4h hi]; exact h
 | false => rw [Q8w hi (fun e => h (e ▸ h0))]; simp
theorem Q7u (h0 : rows 0 = none) {p : Prov} (hok : okProv (Qt fp key rows) p = true) {b : Nat} (hs : Safe w pl rows p b) : Safe w (cutPl fp key pl rows) (Qt fp key rows) p b := by
 obtain ⟨h1, h2, h3⟩ := hs
 obtain ⟨_, hin⟩ := Q3l h0 hok
 refine ⟨h1, fun hz => ?_, fun r s o hr hl hloc => ?_⟩
 ·rcases hz with hz | ⟨r, s, o, hr, hl, hloc, hi⟩
  ·obtain ⟨hL, q, hq, e⟩ := h2 hz
   exact ⟨⟨hL, hz⟩, q, hq, e⟩
  ·obtain ⟨q, hq, e⟩ := h3 r s o hr hl hloc
   rcases hin q hq with hz | hi'
   ·rw [← e, hz, h0] at hr; cases hr
   ·rw [e, hi] at hi'; cases hi'
 ·obtain ⟨_, hr'⟩ := Q1l hr hl
  exact h3 r s o hr' hl hloc
mutual
theorem Qne (h0 : rows 0 = none) : ∀ {v : PV}, Men rows v → Men (Qt fp key rows) v
 | .val _ _ _, h => Q6c h
 | .pvl _ _ _ _ _, h => Q6c h
 | .nils, _ => trivial
 | .nilp, _ => trivial
 | .lit _, _ => trivial
 | .und, _ => trivial
 | .rw _, h => Qau h0 h
 | .rs _ _ _, h => Qau h0 h
 | .ptr _ _, h => Qau h0 h
 | .pel _ _ _, h => Qau h0 h
 | .fn _ l, h => Q7t h0 (l := l) h
 | .agg l, h => Q7t h0 (l := l) h
 | .tup l, h => Q7t h0 (l := l) h
theorem Q7t (h0 : rows 0 = none) : ∀ {l : List PV}, Mens rows l → Mens (Qt fp key rows) l
 | [], _ => trivial
 | v :: l, h => ⟨Qne h0 (v := v) h.1, Q7t h0 (l := l) h.2⟩
end
mutual
theorem Qbk (h0 : rows 0 = none) : ∀ {v : PV} {u : Value}, okPV (Qt fp key rows) v = true → okPV rows v = true ∧ (VR w pl rows v u → VR w (cutPl fp key pl rows) (Qt fp key rows) v u)
 | .val p t x, u, hk => ⟨(Q3l h0 hk).1, fun h => Qn (fun b hb => Q7u h0 hk hb) (fun _ _ => rfl) h⟩
 | .pvl p t l i off, u, hk => ⟨(Q3l h0 hk).1, fun h => by
   obtain ⟨x, es, g1, g2, ad, g3, g4, g5⟩ := h
   exact ⟨x, es, g1, Qn (fun b hb => Q7u h0 hk hb) (fun _ _ => rfl) g2, ad, g3, Q7u h0 hk g4, g5⟩⟩
 | .nils, u, _ => ⟨rfl, fun h => h⟩
 | .nilp, u, _ => ⟨rfl, fun h => h⟩
 | .lit _, u, _ => ⟨rfl, fun h => h⟩
 | .und, u, _ => ⟨rfl, fun h => h⟩
 | .rw r, u, _ => ⟨rfl, fun h => ⟨⟨h.1.1, fun n p kt vt bx l tk hr => h.1.2 _ _ _ _ _ _ _ (Q1l hr (by simp [RowS.live])).2⟩, fun n p t l hr => h.2 n p t l (Q1l hr (by simp [RowS.live])).2⟩⟩
 | .rs r off len, u, _ => ⟨rfl, fun h => ⟨h.1, fun n p t l hr => h.2 n p t l (Q1l hr (by simp [RowS.live])).2⟩⟩
 | .ptr r off, u, _ => ⟨rfl, fun h => ⟨⟨h.1.1, h.1.2.1, fun n i p kt vt bx l tk hr => h.1.2.2 _ _ _ _ _ _ _ _ (Q1l hr (by simp [RowS.live])).2⟩, fun n l hr => h.2 n l (Q1l hr (by simp [RowS.live])).2⟩⟩
 | .pel r i off, u, _ => ⟨rfl, fun h => ⟨h.1, fun n p t l hr => h.2 n p t l (Q1l hr (by simp [RowS.live])).2⟩⟩
 | .fn f l, u, hk => by
   obtain ⟨g1, g2⟩ := Qhv h0 (l := l) hk
   exact ⟨g1, fun ⟨cs, e, h⟩ => ⟨cs, e, g2 h⟩⟩
 | .agg l, u, hk => by
   obtain ⟨g1, g2⟩ := Qhv h0 (l := l) hk
   exact ⟨g1, fun ⟨cs, e, h, h1⟩ => ⟨cs, e, g2 h, h1⟩⟩
 | .tup l, u, hk => by
   obtain ⟨g1, g2⟩ := Qhv h0 (l := l) hk
   exact ⟨g1, fun ⟨cs, us, es, e, e2, h⟩ => ⟨cs, us, es, e, e2, g2 h⟩⟩
theorem Qhv (h0 : rows 0 = none) : ∀ {l : List PV}, okPV.okAll (Qt fp key rows) l = true → okPV.okAll rows l = true ∧ ∀ {us : List Value}, VRs w pl rows l us → VRs w (cutPl fp key pl rows) (Qt fp key rows) l us
 | [], _ => ⟨rfl, fun h => h⟩
 | v :: l, hk => by
   simp only [okPV.okAll, Bool.and_eq_true] at hk ⊢
   obtain ⟨g1, g2⟩ := Qhv h0 (l := l) hk.2
   refine ⟨⟨(Qbk h0 (v := v) (u := undef) hk.1).1, g1⟩, fun {us} h => ?_⟩
   obtain ⟨u, us', rfl, e1, e2⟩ := h
   exact ⟨u, us', rfl, (Qbk h0 (v := v) hk.1).2 e1, g2 e2⟩
end
theorem Q1bn (h0 : rows 0 = none) {r : Nat} {s : RowS} (h : RowR w pl rows r s) : RowR w (cutPl fp key pl rows) (Qt fp key rows) r s := by
 obtain ⟨n, row⟩ := s
 cases row with
 | gone => trivial
 | arr p t l =>
   obtain ⟨g1, g2⟩ := h
   refine ⟨Q6c g1, ?_⟩
   show match pl.loc r with
    | none => l = []
    | some (b, o) => _
   cases hlr : pl.loc r with
   | none => rw [hlr] at g2; exact g2
   | some bo =>
     obtain ⟨b, o⟩ := bo
     rw [hlr] at g2
     obtain ⟨arr, Te, fr, e1, e2, e3, e4⟩ := g2
     refine ⟨arr, Te, fr, e1, e2, e3, fun hok j y hy => ?_⟩
     obtain ⟨es, q1, q2⟩ := e4 (Q3l h0 hok).1 j y hy
     exact ⟨es, Qn (fun b hb => Q7u h0 hok hb) (fun _ _ => rfl) q1, q2⟩
 | vars l =>
   obtain ⟨g1, b, arr, Te, fr, e0, e1, e2, e3, e4⟩ := h
   refine ⟨Q7t h0 g1, b, arr, Te, fr, e0, e1, e2, e3, fun j y hy => ?_⟩
   obtain ⟨c, q1, q2, q3⟩ := e4 j y hy
   exact ⟨c, q1, q2, fun hk => (Qbk h0 hk).2 (q3 (Qbk h0 (u := c) (w := w) (pl := pl) hk).1)⟩
 | mp it p kt vt bx l tk =>
   obtain ⟨g1, g2, b, es1, st, bs, e1, e2, e4, e5, e6, e7, e8⟩ := h
   refine ⟨Q6c g1, g2, b, es1, st, bs, e1, e2.frame (fun x hx => ⟨hx, rfl⟩) rfl,
    e4.frame (fun hok => ⟨(Q3l h0 hok).1, fun b hb => ⟨Q7u h0 hok hb, rfl⟩⟩) (fun _ _ => rfl), ?_, e6, e7, e8⟩
   cases tk with
   | none => exact e5
   | some x =>
     obtain ⟨k, r0⟩ := x
     refine ⟨Qne h0 e5.1, e5.2.imp id ?_⟩
     rintro ⟨e, q1, q2, q3⟩
     exact ⟨e, q1, q2, (Qbk h0 (Qou _ _ _)).2 q3⟩
theorem Q1bm {B : Nat} {G : Nat → Prop} {st : St} {a : Act} (ops : Array Oper) (o : Oper) (R : Rel B G pl st a w) :
  Rel w.heap.size (fun b => ∃ r s o, st.rows r = some s ∧ s.live ∧ pl.at r b o ∧ inFoot fp key r = true) (cutPl fp key pl st.rows) (cutSt ops fp key o st) a w := by
 refine ⟨fun s v hv => ?_, fun r s hr => ?_, ?_, fun r r' s s' b o o' hr hl hr' hl' h1 h2 => ?_, fun r s b o hr hl hloc => ?_, R.defers⟩
 ·have hv' : st.env s = some v := by
   simp only [cutSt] at hv
   split at hv
   ·exact hv
   ·cases hv
  obtain ⟨g1, g2, g3⟩ := R.env s v hv'
  exact ⟨g1, Qne R.zero g2, fun hk => (Qbk R.zero hk).2 (g3 (Qbk R.zero (u := undef) (w := w) (pl := pl) hk).1)⟩
 ·show RowR w _ (Qt fp key st.rows) r s
  have hr' : Qt fp key st.rows r = some s := hr
  cases hi : inFoot fp key r with
  | true =>
    rw [Q4h hi] at hr'
    exact Q1bn R.zero (R.rows r s hr')
  | false =>
    by_cases hz : r = 0
    ·subst hz; simp [Qt, hi] at hr'
    ·rw [Q8w hi hz] at hr'
     cases hr'
     trivial
 ·show Qt fp key st.rows 0 = none
  cases hi : inFoot fp key 0 with
  | true => rw [Q4h hi]; exact R.zero
  | false => simp [Qt, hi]
 ·exact R.inj r r' s s' b o o' (Q1l hr hl).2 hl (Q1l hr' hl').2 hl' h1 h2
 ·obtain ⟨hi, hr'⟩ := Q1l hr hl
  obtain ⟨g1, g2, g3⟩ := R.own r s b o hr' hl hloc
  refine ⟨g1, ?_, .inr ⟨r, s, o, hr', hl, hloc, hi⟩⟩
  rintro (hz | ⟨r2, s2, o2, q1, q2, q3, q4⟩)
  ·exact g2 hz
  ·obtain rfl := R.inj r2 r s2 s b o2 o q1 q2 hr' hl q3 hloc
   rw [hi] at q4; cases q4
end
noncomputable def Qd (fp : Foot) (key : Nat) (rows rows' : Rows) : Rows := fun r => if wrFoot fp key r then rows' r else rows r
noncomputable def joinPl (fp : Foot) (key : Nat) (pl pl' : Pl) : Pl := ⟨fun r => if wrFoot fp key r then pl'.loc r else pl.loc r, pl.Z, pl.L, fun r b => if wrFoot fp key r then pl'.hid r b else pl.hid r b⟩
structure Cutd (fp : Foot) (key : Nat) (w : World) (pl : Pl) (rows : Rows) (w' : World) (pl' : Pl) (rows' : Rows) : Prop where
 zero : rows 0 = none
 zero' : rows' 0 = none
 own : ∀ r s b o, rows r = some s → s.live → pl.at r b o → b < w.heap.size ∧ ¬ pl.Z b
 step : Step w (cutPl fp key pl rows) (Qt fp key rows) w' pl' rows'
 same : ∀ r, inFoot fp key r = true → wrFoot fp key r = false → rows' r = rows r
section
variable {fp : Foot} {key : Nat} {rows rows' : Rows} {pl pl' : Pl} {w w' : World}
theorem wr_in {r : Nat} (h : wrFoot fp key r = true) : inFoot fp key r = true := by simp [inFoot, h]
theorem Cutd.loc (D : Cutd fp key w pl rows w' pl' rows') {r : Nat} {s : RowS} (hi : inFoot fp key r = true) (hw : wrFoot fp key r = false) (hr : rows r = some s) (hl : s.live) : pl'.loc r = pl.loc r := by
 obtain ⟨s', h1, h2, h3⟩ := D.step.kin r s (by rw [Q4h hi]; exact hr)
 rw [D.same r hi hw, hr] at h1
 cases h1
 exact h3 hl
theorem Cutd.hid (D : Cutd fp key w pl rows w' pl' rows') {r : Nat} {s : RowS} (hi : inFoot fp key r = true) (hw : wrFoot fp key r = false) (hr : rows r = some s) (hl : s.live) : pl'.hid r = pl.hid r :=
 D.step.hid r s (by rw [Q4h hi]; exact hr) (by rw [D.same r hi hw]; exact hr) hl
theorem Qfc {r b o : Nat} (hw : wrFoot fp key r = true) : (joinPl fp key pl pl').at r b o ↔ pl'.at r b o := by simp [Pl.at, joinPl, hw]
theorem Q6j {r b o : Nat} (hw : wrFoot fp key r = false) : (joinPl fp key pl pl').at r b o ↔ pl.at r b o := by simp [Pl.at, joinPl, hw]
theorem Q13q (D : Cutd fp key w pl rows w' pl' rows') : Step w pl rows w' (joinPl fp key pl pl') (Qd fp key rows rows') := by
 refine ⟨rfl, rfl, D.step.size, fun r s hr => ?_, fun r s h1 h2 hl => ?_, fun r s' h2 hl b o h3 => ?_, fun b hb hh => ?_, D.step.blk, D.zero⟩
 ·cases hw : wrFoot fp key r with
  | true =>
    obtain ⟨s', e1, e2, e3⟩ := D.step.kin r s (by rw [Q4h (wr_in hw)]; exact hr)
    exact ⟨s', by simp [Qd, hw, e1], e2, fun hl => by simp only [joinPl, hw, if_true]; exact e3 hl⟩
  | false => exact ⟨s, by simp [Qd, hw, hr], Kin.refl s, fun _ => by simp [joinPl, hw]⟩
 ·cases hw : wrFoot fp key r with
  | true =>
    have h2' : rows' r = some s := by simpa [Qd, hw] using h2
    funext b
    simp only [joinPl, hw, if_true]
    rw [D.step.hid r s (by rw [Q4h (wr_in hw)]; exact h1) h2' hl]
    rfl
  | false => funext b; simp [joinPl, hw]
 ·cases hw : wrFoot fp key r with
  | true =>
    simp only [Qd, hw, if_true] at h2
    rw [Qfc hw] at h3
    rcases D.step.fresh r s' h2 hl b o h3 with ⟨s, o', g1, g2, g3⟩ | h | ⟨r0, s0, s1, o0, g1, g2, g3, g4, g5⟩
    ·exact .inl ⟨s, o', (Q1l g1 g2).2, g2, g3⟩
    ·exact .inr (.inl h)
    ·obtain ⟨hi, g1'⟩ := Q1l g1 g2
     refine .inr (.inr ⟨r0, s0, s1, o0, g1', g2, ?_, g4, g5⟩)
     cases hw0 : wrFoot fp key r0 with
     | true => simp [Qd, hw0, g3]
     | false =>
       rw [D.same r0 hi hw0, g1'] at g3
       cases g3
       exact absurd rfl g4
  | false =>
    rw [Q6j hw] at h3
    refine .inl ⟨s', o, ?_, hl, h3⟩
    simpa [Qd, hw] using h2
 ·refine D.step.heap b hb fun r s o hr hl hloc => ?_
  obtain ⟨hi, hr'⟩ := Q1l hr hl
  have := hh r s o hr' hl hloc
  cases hw : wrFoot fp key r with
  | true => simpa [Qd, hw] using this
  | false => rw [D.same r hi hw]; exact hr'
theorem Qx (D : Cutd fp key w pl rows w' pl' rows') {r : Nat} (hi : inFoot fp key r = true) : Qd fp key rows rows' r = rows' r := by
 cases hw : wrFoot fp key r with
 | true => simp [Qd, hw]
 | false => simp [Qd, hw, D.same r hi hw]
theorem Q10 (D : Cutd fp key w pl rows w' pl' rows') {r : Nat} {s : RowS} (hi : inFoot fp key r = true) (hr : Qd fp key rows rows' r = some s) (hl : s.live) : (joinPl fp key pl pl').loc r = pl'.loc r := by
 cases hw : wrFoot fp key r with
 | true => simp [joinPl, hw]
 | false =>
   simp only [Qd, hw] at hr
   rw [if_neg (by simp)] at hr
   simp only [joinPl, hw]
   rw [if_neg (by simp), D.loc hi hw hr hl]
theorem Qch (D : Cutd fp key w pl rows w' pl' rows') {r : Nat} {s : RowS} (hi : inFoot fp key r = true) (hr : Qd fp key rows rows' r = some s) (hl : s.live) : (joinPl fp key pl pl').hid r = pl'.hid r := by
 cases hw : wrFoot fp key r with
 | true => funext b; simp [joinPl, hw]
 | false =>
   have hr' : rows r = some s := by simpa [Qd, hw] using hr
   rw [D.hid hi hw hr' hl]
   funext b
   simp [joinPl, hw]
theorem Qfb (D : Cutd fp key w pl rows w' pl' rows') {r b o : Nat} {s : RowS} (hi : inFoot fp key r = true) (hr : Qd fp key rows rows' r = some s) (hl : s.live) : (joinPl fp key pl pl').at r b o ↔ pl'.at r b o := by
 unfold Pl.at
 rw [Q10 D hi hr hl, Qch D hi hr hl]
theorem Q8c (D : Cutd fp key w pl rows w' pl' rows') {p : Prov} (h : okProv rows' p = true) (hp : ProvIn rows' p) : (∀ q ∈ p, q.1 = 0 ∨ inFoot fp key q.1 = true) ∧ okProv (Qd fp key rows rows') p = true ∧ ProvIn (Qd fp key rows rows') p := by
 have g := Q2l h
 have hin : ∀ q ∈ p, q.1 = 0 ∨ inFoot fp key q.1 = true := by
  intro q hq
  by_cases hz : q.1 = 0
  ·exact .inl hz
  ·cases hi : inFoot fp key q.1 with
   | true => exact .inr rfl
   | false =>
     obtain ⟨s', e1, e2, _⟩ := D.step.kin q.1 _ (Q8w hi hz)
     exact absurd (e2.gone rfl) (g q hq s' e1).1
 refine ⟨hin, Q33 fun q hq s hs => ?_, fun q hq => ?_⟩
 ·rcases hin q hq with hz | hi
  ·exfalso
   have : Qd fp key rows rows' 0 = none := by
    unfold Qd
    split
    ·exact D.zero'
    ·exact D.zero
   rw [hz, this] at hs; cases hs
  ·rw [Qx D hi] at hs
   exact g q hq s hs
 ·rcases hin q hq with hz | hi
  ·exact .inl hz
  ·rcases hp q hq with hz | ⟨s, e1, e2, e3⟩
   ·exact .inl hz
   ·exact .inr ⟨s, by rw [Qx D hi]; exact e1, e2, e3⟩
theorem Q5k (D : Cutd fp key w pl rows w' pl' rows') {p : Prov} (h : okProv rows' p = true) (hp : ProvIn rows' p) {b : Nat} (hs : Safe w' pl' rows' p b) : Safe w' (joinPl fp key pl pl') (Qd fp key rows rows') p b := by
 obtain ⟨h1, h2, h3⟩ := hs
 refine ⟨h1, fun hz => ?_, fun r s o hr hl hloc => ?_⟩
 ·obtain ⟨hL, q, hq, e⟩ := h2 (by rw [D.step.z]; exact .inl hz)
  rw [D.step.l] at hL
  exact ⟨hL.1, q, hq, e⟩
 ·cases hi : inFoot fp key r with
  | true =>
    rw [Qfb D hi hr hl] at hloc
    rw [Qx D hi] at hr
    exact h3 r s o hr hl hloc
  | false =>
    have hw : wrFoot fp key r = false := by
     cases hw : wrFoot fp key r with
     | false => rfl
     | true => rw [wr_in hw] at hi; cases hi
    have hr' : rows r = some s := by simpa [Qd, hw] using hr
    have hl' : pl.at r b o := (Q6j hw).1 hloc
    obtain ⟨hL, _⟩ := h2 (by rw [D.step.z]; exact .inr ⟨r, s, o, hr', hl, hl', hi⟩)
    rw [D.step.l] at hL
    exact absurd hL.2 (D.own r s b o hr' hl hl').2
theorem Q91 (D : Cutd fp key w pl rows w' pl' rows') {r : Nat} (hi : inFoot fp key r = true) (h : rows' r ≠ none) : Qd fp key rows rows' r ≠ none := by
 rw [Qx D hi]; exact h
mutual
theorem Qci (D : Cutd fp key w pl rows w' pl' rows') : ∀ {v : PV} {u : Value}, okPV rows' v = true → (∀ r ∈ idsOf v, inFoot fp key r = true) → Men rows' v → VR w' pl' rows' v u →
  Men (Qd fp key rows rows') v ∧ VR w' (joinPl fp key pl pl') (Qd fp key rows rows') v u
 | .val p t x, u, hk, _, hm, hv => ⟨(Q8c D hk hm).2.2, Qn (fun b hb => Q5k D hk hm hb) (fun _ _ => rfl) hv⟩
 | .pvl p t l i off, u, hk, _, hm, hv => by
   obtain ⟨x, es, g1, g2, ad, g3, g4, g5⟩ := hv
   exact ⟨(Q8c D hk hm).2.2, x, es, g1, Qn (fun b hb => Q5k D hk hm hb) (fun _ _ => rfl) g2, ad, g3, Q5k D hk hm g4, g5⟩
 | .nils, u, _, _, _, hv => ⟨trivial, hv⟩
 | .nilp, u, _, _, _, hv => ⟨trivial, hv⟩
 | .lit _, u, _, _, _, hv => ⟨trivial, hv⟩
 | .und, u, _, _, _, hv => ⟨trivial, hv⟩
 | .rw r, u, _, hi, hm, hv => by
   have hr := hi r (by simp [idsOf])
   refine ⟨Q91 D hr hm, ⟨hv.1.1, fun n p kt vt bx l tk hl => ?_⟩, fun n p t l hl => ?_⟩
   ·have hloc := Q10 D hr hl (by simp [RowS.live])
    rw [Qx D hr] at hl
    rw [hloc]
    exact hv.1.2 _ _ _ _ _ _ _ hl
   have hloc := Q10 D hr hl (by simp [RowS.live])
   rw [Qx D hr] at hl
   obtain ⟨A, c, e1, e2, e3⟩ := hv.2 n p t l hl
   exact ⟨A, c, e1, e2, fun hc => by rw [hloc]; exact e3 hc⟩
 | .rs r off len, u, _, hi, hm, hv => by
   have hr := hi r (by simp [idsOf])
   refine ⟨Q91 D hr hm, hv.1, fun n p t l hl => ?_⟩
   have hloc := Q10 D hr hl (by simp [RowS.live])
   rw [Qx D hr] at hl
   obtain ⟨hle, A, c, e1, e2, e3⟩ := hv.2 n p t l hl
   exact ⟨hle, A, c, e1, e2, fun hc => by rw [hloc]; exact e3 hc⟩
 | .ptr r off, u, _, hi, hm, hv => by
   have hr := hi r (by simp [idsOf])
   refine ⟨Q91 D hr hm, ⟨hv.1.1, hv.1.2.1, fun n i p kt vt bx l tk hl => ?_⟩, fun n l hl => ?_⟩
   ·have hloc := Q10 D hr hl (by simp [RowS.live])
    rw [Qx D hr] at hl
    rw [hloc]
    exact hv.1.2.2 _ _ _ _ _ _ _ _ hl
   have hloc := Q10 D hr hl (by simp [RowS.live])
   rw [Qx D hr] at hl
   rw [hloc]
   exact hv.2 n l hl
 | .pel r i off, u, _, hi, hm, hv => by
   have hr := hi r (by simp [idsOf])
   refine ⟨Q91 D hr hm, hv.1, fun n p t l hl => ?_⟩
   have hloc := Q10 D hr hl (by simp [RowS.live])
   rw [Qx D hr] at hl
   rw [hloc]
   exact hv.2 n p t l hl
 | .fn f l, u, hk, hi, hm, hv => by
   obtain ⟨cs, e, g⟩ := hv
   obtain ⟨q1, q2⟩ := Qb6 D (l := l) hk (fun r hr => hi r (by simpa [idsOf] using hr)) hm g
   exact ⟨q1, cs, e, q2⟩
 | .agg l, u, hk, hi, hm, hv => by
   obtain ⟨cs, e, g, g1⟩ := hv
   obtain ⟨q1, q2⟩ := Qb6 D (l := l) hk (fun r hr => hi r (by simpa [idsOf] using hr)) hm g
   exact ⟨q1, cs, e, q2, g1⟩
 | .tup l, u, hk, hi, hm, hv => by
   obtain ⟨cs, us, es, e, e2, g⟩ := hv
   obtain ⟨q1, q2⟩ := Qb6 D (l := l) hk (fun r hr => hi r (by simpa [idsOf] using hr)) hm g
   exact ⟨q1, cs, us, es, e, e2, q2⟩
theorem Qb6 (D : Cutd fp key w pl rows w' pl' rows') : ∀ {l : List PV} {us : List Value}, okPV.okAll rows' l = true → (∀ r ∈ idsOf.idsAll l, inFoot fp key r = true) → Mens rows' l → VRs w' pl' rows' l us →
  Mens (Qd fp key rows rows') l ∧ VRs w' (joinPl fp key pl pl') (Qd fp key rows rows') l us
 | [], us, _, _, _, hv => ⟨trivial, hv⟩
 | v :: l, us, hk, hi, hm, hv => by
   simp only [okPV.okAll, Bool.and_eq_true] at hk
   obtain ⟨u, us', rfl, g1, g2⟩ := hv
   obtain ⟨q1, q2⟩ := Qci D (v := v) hk.1 (fun r hr => hi r (by simp [idsOf.idsAll, hr])) hm.1 g1
   obtain ⟨r1, r2⟩ := Qb6 D (l := l) hk.2 (fun r hr => hi r (by simp [idsOf.idsAll, hr])) hm.2 g2
   exact ⟨⟨q1, r1⟩, u, us', rfl, q2, r2⟩
end
theorem Qok : ∀ {l : List PV} {v : PV}, v ∈ l → ∀ r ∈ idsOf v, r ∈ idsOf.idsAll l
 | x :: l, v, h, r, hr => by
   simp only [idsOf.idsAll, List.mem_append]
   rcases List.mem_cons.1 h with rfl | h
   ·exact .inl hr
   ·exact .inr (Qok h r hr)
theorem Q162 (D : Cutd fp key w pl rows w' pl' rows') {r : Nat} {s : RowS} (hi : inFoot fp key r = true) (hr : Qd fp key rows rows' r = some s) (hs : Q7h fp key rows' (some s) = true) (hR : RowR w' pl' rows' r s) : RowR w' (joinPl fp key pl pl') (Qd fp key rows rows') r s := by
 obtain ⟨n, row⟩ := s
 cases row with
 | gone => trivial
 | arr p t l =>
   have hloc := Q10 D hi hr (by simp [RowS.live])
   have hok : okProv rows' p = true := hs
   obtain ⟨g1, g2⟩ := hR
   refine ⟨(Q8c D hok g1).2.2, ?_⟩
   rw [hloc]
   cases hlr : pl'.loc r with
   | none => rw [hlr] at g2; exact g2
   | some bo =>
     obtain ⟨b, o⟩ := bo
     rw [hlr] at g2
     obtain ⟨arr, Te, fr, e1, e2, e3, e4⟩ := g2
     refine ⟨arr, Te, fr, e1, e2, e3, fun _ j y hy => ?_⟩
     obtain ⟨es, q1, q2⟩ := e4 hok j y hy
     exact ⟨es, Qn (fun b hb => Q5k D hok g1 hb) (fun _ _ => rfl) q1, q2⟩
 | vars l =>
   have hloc := Q10 D hi hr (by simp [RowS.live])
   simp only [Q7h, Bool.and_eq_true, List.all_eq_true] at hs
   obtain ⟨g1, b, arr, Te, fr, e0, e1, e2, e3, e4⟩ := hR
   refine ⟨Qco fun y hy => ?_, b, arr, Te, fr, hloc.trans e0, e1, e2, e3, fun j y hy => ?_⟩
   ·obtain ⟨j, hj⟩ := List.getElem?_of_mem hy
    obtain ⟨c, q1, q2, q3⟩ := e4 j y hj
    have hk := Q25 hs.1 y hy
    exact (Qci D hk (fun r hr => hs.2 r (Qok hy r hr)) (Qq g1 y hy) (q3 hk)).1
   ·obtain ⟨c, q1, q2, q3⟩ := e4 j y hy
    have hk := Q25 hs.1 y (List.mem_of_getElem? hy)
    exact ⟨c, q1, q2, fun _ => (Qci D hk (fun r hr => hs.2 r (Qok (List.mem_of_getElem? hy) r hr)) (Qq g1 y (List.mem_of_getElem? hy)) (q3 hk)).2⟩
 | mp it p kt vt bx l tk =>
   have hlv : RowS.live ⟨n, .mp it p kt vt bx l tk⟩ := by simp [RowS.live]
   have hloc := Q10 D hi hr hlv
   have hhid := Qch D hi hr hlv
   obtain ⟨g1, g2, b, es1, st, bs, e1, e2, e4, e5, e6, e7, e8⟩ := hR
   have hok : okProv rows' p = true := by
    cases tk with
    | none => exact hs
    | some x => simp only [Q7h, Bool.and_eq_true] at hs; exact hs.1
   refine ⟨(Q8c D hok g1).2.2, g2, b, es1, st, bs, hloc.trans e1, e2.frame (fun x hx => ⟨by rw [hhid]; exact hx, rfl⟩) rfl,
    e4.frame (fun _ => ⟨hok, fun b hb => ⟨Q5k D hok g1 hb, rfl⟩⟩) (fun _ _ => rfl), ?_, e6, e7, fun x hx => by rw [hhid]; exact e8 x hx⟩
   cases tk with
   | none => exact e5
   | some x =>
     obtain ⟨k, r0⟩ := x
     simp only [Q7h, Bool.and_eq_true] at hs
     have hids : ∀ r ∈ idsOf (tkPV bx r0), inFoot fp key r = true := by
      intro r hr
      cases bx <;> (simp [tkPV, idsOf] at hr; subst hr; exact hs.2)
     refine ⟨?_, e5.2.imp id ?_⟩
     ·cases bx
      ·exact Q91 D hs.2 e5.1
      ·exact Q91 D hs.2 e5.1
     ·rintro ⟨e, q1, q2, q3⟩
      exact ⟨e, q1, q2, (Qci D (Qou _ _ _) hids e5.1 q3).2⟩
end
def cutC (fp : Foot) (key : Nat) (pl : Pl) (rows : Rows) (w : World) : Ctx :=
 ⟨w.heap.size, fun b => ∃ r s o, rows r = some s ∧ s.live ∧ pl.at r b o ∧ inFoot fp key r = true, (cutPl fp key pl rows).Z, (cutPl fp key pl rows).L, 0, fun _ => none, w⟩
section
variable {fp : Foot} {key : Nat} {C : Ctx} {nt : Nat} {pl pl' : Pl} {st st0 : St} {a : Act} {w w' : World} {ops : Array Oper} {o : Oper}
theorem Q1bl (hC : C.Ok) (I : Inv C nt pl st a w) : (cutC fp key pl st.rows w).Ok ∧ Inv (cutC fp key pl st.rows w) nt (cutPl fp key pl st.rows) (cutSt ops fp key o st) a w := by
 refine ⟨⟨fun b hb => ?_, rfl⟩, Q1bm ops o I.rel, rfl, rfl, I.nt, Nat.le_refl _, Quiet.refl w, fun _ _ _ => rfl, fun b arr T fr h => ⟨arr, T, fr, h, rfl⟩, fun i h1 h2 => ?_⟩
 ·rcases hb with hb | ⟨r, s, o, hr, hl, hloc, _⟩
  ·exact Nat.lt_of_lt_of_le (I.zlt hC b hb) I.size
  ·exact (I.rel.own r s b o hr hl hloc).1
 ·simp only [cutC] at h2; omega
theorem Q161 (hC : C.Ok) (I : Inv C nt pl st a w) {u : Value} (I' : Inv (cutC fp key pl st.rows w) nt pl' st0 (a.put o.dst u) w') (S0 : Step w (cutPl fp key pl st.rows) (cutSt ops fp key o st).rows w' pl' st0.rows)
  (hl : Q5l fp key o (cutSt ops fp key o st) st0 = true) : Inv C nt (joinPl fp key pl pl') (joinSt fp key o st st0) (a.put o.dst u) w' := by
 simp only [Q5l, Bool.and_eq_true] at hl
 obtain ⟨⟨⟨l1, l2⟩, l3⟩, l4⟩ := hl
 have same : ∀ r, inFoot fp key r = true → wrFoot fp key r = false → st0.rows r = st.rows r := by
  intro r hi hw
  have hm : fp.reads.any (fun x => x == r) = true := by
   simp only [inFoot, hw, Bool.false_or] at hi; exact hi
  obtain ⟨x, hx, e⟩ := List.any_eq_true.1 hm
  rw [beq_iff_eq] at e
  subst e
  have hu := List.all_eq_true.1 l2 x hx
  rw [hw, Bool.false_or] at hu
  have hc : (cutSt ops fp key o st).rows x = st.rows x := Q4h (rows := st.rows) hi
  rw [hc] at hu
  cases h1 : st.rows x with
  | none =>
    rw [h1] at hu
    cases h2 : st0.rows x with
    | none => rfl
    | some s => rw [h2] at hu; cases hu
  | some s =>
    obtain ⟨s', e1, e2, _⟩ := S0.kin x s (by rw [hc]; exact h1)
    rw [h1, e1] at hu
    simp only [Qt4, Bool.and_eq_true, beq_iff_eq] at hu
    rw [e1]
    obtain ⟨n, row⟩ := s
    obtain ⟨n', row'⟩ := s'
    obtain ⟨hv, hg⟩ := hu
    simp only at hv hg
    subst hv
    rcases e2.2 with e | ⟨e, _⟩ | ⟨_, _, _, _, _, _, _, _, e⟩ | ⟨_, _, _, _, _, e⟩ | ⟨_, _, _, _, _, _, _, _, _, _, _, _, _, _, e⟩
    ·rw [e]
    ·simp only at e
     subst e
     cases row <;> simp at hg
     rfl
    ·simp only at e; omega
    ·simp only at e; omega
    ·simp only at e; omega
 have D : Cutd fp key w pl st.rows w' pl' st0.rows := ⟨I.rel.zero, I'.rel.zero, fun r s b o hr hl hloc => ⟨(I.rel.own r s b o hr hl hloc).1, (I.rel.own r s b o hr hl hloc).2.1⟩, S0, same⟩
 have S := Q13q D
 have shut : ∀ r, wrFoot fp key r = true → Q7h fp key st0.rows (st0.rows r) = true := by
  intro r hw
  simp only [wrFoot, Bool.or_eq_true] at hw
  rcases hw with hw | hw
  ·simp only [ownRow, beq_iff_eq] at hw
   have := List.all_eq_true.1 l4 (r % 8) (List.mem_range.2 (Nat.mod_lt _ (by omega)))
   have e : key / 8 * 8 + r % 8 = r := by rw [← hw]; omega
   rw [e] at this
   exact this
  ·obtain ⟨x, hx, e⟩ := List.any_eq_true.1 hw
   rw [beq_iff_eq] at e
   subst e
   exact List.all_eq_true.1 l3 x hx
 have R : Rel C.B C.G (joinPl fp key pl pl') (joinSt fp key o st st0) (a.put o.dst u) w' := by
  refine I.rel.stepM (env' := (joinSt fp key o st st0).env) S I'.rel.defers (fun s v hv => ?_) (fun r s' hr hne => ?_) ?_ (fun r s b o1 h1 k1 h2 => ?_)
  ·cases hd : isDst o s with
   | true =>
     have hv' : st0.env s = some v := by simpa [joinSt, hd] using hv
     obtain ⟨g1, g2, g3⟩ := I'.rel.env s v hv'
     have hdst := Q23.1 hd
     rw [hdst] at l1
     simp only [hv', shutPV, Bool.and_eq_true, List.all_eq_true] at l1
     obtain ⟨q1, q2⟩ := Qci D l1.1 l1.2 g2 (g3 l1.1)
     exact .inr ⟨g1, q1, fun _ => q2⟩
   | false =>
     have hv' : st.env s = some v := by simpa [joinSt, hd] using hv
     have hsz := (I.rel.env s v hv').1
     refine .inl ⟨hv', by rw [Q1p]; exact hsz, ?_⟩
     cases hdst : o.dst with
     | none => rfl
     | some d =>
       have hne : s ≠ d := fun e => by rw [Q23.2 (by rw [hdst, e])] at hd; cases hd
       by_cases hdl : d < a.tmps.size
       ·rw [Q43 a d s u hdl, if_neg hne]
       ·have : a.put (some d) u = a := by simp [Act.put, Array.setIfInBounds, hdl]
        rw [this]
  ·have hr' : Qd fp key st.rows st0.rows r = some s' := hr
   cases hw : wrFoot fp key r with
   | false => exfalso; simp only [Qd, hw] at hr'; exact hne (by simpa using hr')
   | true =>
     have h0 : st0.rows r = some s' := by simpa [Qd, hw] using hr'
     refine Q162 D (wr_in hw) hr' ?_ (I'.rel.rows r s' h0)
     rw [← h0]; exact shut r hw
  ·show Qd fp key st.rows st0.rows 0 = none
   unfold Qd
   split
   ·exact I'.rel.zero
   ·exact I.rel.zero
  ·have h1' : Qd fp key st.rows st0.rows r = some s := h1
   cases hw1 : wrFoot fp key r with
   | false =>
     refine .inl ⟨s, o1, ?_, k1, (Q6j hw1).1 h2⟩
     simpa [Qd, hw1] using h1'
   | true =>
     have e1 : st0.rows r = some s := by simpa [Qd, hw1] using h1'
     have f1 := (Qfc hw1).1 h2
     obtain ⟨q1, q2, q3⟩ := I'.rel.own r s b o1 e1 k1 f1
     refine .inr ⟨⟨q1, fun hz => q2 (by rw [I'.z]; exact .inl hz), ?_⟩, fun r' s' o2 h3 k2 h4 => ?_⟩
     ·rcases q3 with q3 | ⟨r0, s0, o0, g1, g2, g3, _⟩
      ·exact .inl (Nat.le_trans I.size q3)
      ·exact (I.rel.own r0 s0 b o0 g1 g2 g3).2.2
     ·have h3' : Qd fp key st.rows st0.rows r' = some s' := h3
      cases hi : inFoot fp key r' with
      | true =>
        rw [Qfb D hi h3' k2] at h4
        rw [Qx D hi] at h3'
        exact I'.rel.inj r' r s' s b o2 o1 h3' k2 e1 k1 h4 f1
      | false =>
        have hw : wrFoot fp key r' = false := by
         cases hw : wrFoot fp key r' with
         | false => rfl
         | true => rw [wr_in hw] at hi; cases hi
        have e3 : st.rows r' = some s' := by simpa [Qd, hw] using h3'
        exact absurd (by rw [I'.z]; exact .inr ⟨r', s', o2, e3, k2, (Q6j hw).1 h4, hi⟩) q2
 exact I.next S I'.quiet R I'.nt
end
end Go.Proofs.YtecnlienmpdlaaaGreat.PM

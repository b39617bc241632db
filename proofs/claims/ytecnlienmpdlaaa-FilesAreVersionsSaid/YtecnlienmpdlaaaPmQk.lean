/- The small machine PM: the same runs, told so that the kernel keeps what is known in short form (values, rows and numbers are looked at before they are handed on). -/
import Derived.Test.YtecnlienmpdlaaaPmC
set_option linter.unusedSimpArgs false
set_option linter.unusedVariables false
namespace Go.Proofs.Ytecnlienmpdlaaa.PM
open Go

section
variable {α : Type}
noncomputable def forceN (n : Nat) (K : Nat → α) : α := match n with
  | 0 => K 0
  | m + 1 => K (Nat.succ m)
theorem forceN_eq (n : Nat) (K : Nat → α) : forceN n K = K n := by cases n <;> rfl
noncomputable def forceNs : List Nat → (List Nat → α) → α
  | [], K => K []
  | n :: l, K => forceN n fun n => forceNs l fun l => K (n :: l)
theorem forceNs_eq : ∀ (l : List Nat) (K : List Nat → α), forceNs l K = K l
  | [], K => rfl
  | n :: l, K => by simp only [forceNs, forceN_eq, forceNs_eq l]
noncomputable def forceP : Prov → (Prov → α) → α
  | [], K => K []
  | (r, n) :: l, K => forceN r fun r => forceN n fun n => forceP l fun l => K ((r, n) :: l)
theorem forceP_eq : ∀ (l : Prov) (K : Prov → α), forceP l K = K l
  | [], K => rfl
  | (r, n) :: l, K => by simp only [forceP, forceN_eq, forceP_eq l]
noncomputable def forceV : PV → (PV → α) → α
  | .val p t x, K => forceP p fun p => K (.val p t x)
  | .nils, K => K .nils
  | .rw r, K => forceN r fun r => K (.rw r)
  | .rs r off len, K => forceN r fun r => K (.rs r off len)
  | .ptr r off, K => forceN r fun r => forceN off fun off => K (.ptr r off)
  | .pel r i off, K => forceN r fun r => forceN off fun off => K (.pel r i off)
  | .pvl p t l i off, K => forceP p fun p => forceN off fun off => K (.pvl p t l i off)
  | .nilp, K => K .nilp
  | .fn f l, K => forceN f fun f => forceAll l fun l => K (.fn f l)
  | .agg l, K => forceAll l fun l => K (.agg l)
  | .tup l, K => forceAll l fun l => K (.tup l)
  | .lit v, K => K (.lit v)
  | .und, K => K .und
where forceAll : List PV → (List PV → α) → α
  | [], K => K []
  | v :: l, K => forceV v fun v => forceAll l fun l => K (v :: l)
mutual
theorem forceV_eq : ∀ (v : PV) (K : PV → α), forceV v K = K v
  | .val p t x, K => by simp only [forceV, forceP_eq]
  | .nils, K => rfl
  | .rw r, K => by simp only [forceV, forceN_eq]
  | .rs r off len, K => by simp only [forceV, forceN_eq]
  | .ptr r off, K => by simp only [forceV, forceN_eq]
  | .pel r i off, K => by simp only [forceV, forceN_eq]
  | .pvl p t l i off, K => by simp only [forceV, forceN_eq, forceP_eq]
  | .nilp, K => rfl
  | .fn f l, K => by simp only [forceV, forceN_eq, forceAll_eq l]
  | .agg l, K => by simp only [forceV, forceAll_eq l]
  | .tup l, K => by simp only [forceV, forceAll_eq l]
  | .lit v, K => rfl
  | .und, K => rfl
theorem forceAll_eq : ∀ (l : List PV) (K : List PV → α), forceV.forceAll l K = K l
  | [], K => rfl
  | v :: l, K => by simp only [forceV.forceAll, forceV_eq v, forceAll_eq l]
end
noncomputable def forceRow : Row → (Row → α) → α
  | .arr p t l, K => forceP p fun p => K (.arr p t l)
  | .vars l, K => forceV.forceAll l fun l => K (.vars l)
  | .gone, K => K .gone
  | .mp it p kt vt bx l none, K => forceP p fun p => K (.mp it p kt vt bx l none)
  | .mp it p kt vt bx l (some (k, r)), K => forceP p fun p => forceN r fun r => K (.mp it p kt vt bx l (some (k, r)))
theorem forceRow_eq (x : Row) (K : Row → α) : forceRow x K = K x := by
  cases x
  case mp it p kt vt bx l tk =>
    cases tk with
    | none => simp only [forceRow, forceP_eq]
    | some y => obtain ⟨k, r⟩ := y; simp only [forceRow, forceP_eq, forceN_eq]
  all_goals simp only [forceRow, forceP_eq, forceAll_eq]
noncomputable def forceRs : List RowS → (List RowS → α) → α
  | [], K => K []
  | ⟨n, x⟩ :: l, K => forceN n fun n => forceRow x fun x => forceRs l fun l => K (⟨n, x⟩ :: l)
theorem forceRs_eq : ∀ (l : List RowS) (K : List RowS → α), forceRs l K = K l
  | [], K => rfl
  | ⟨n, x⟩ :: l, K => by simp only [forceRs, forceN_eq, forceRow_eq, forceRs_eq l]
noncomputable def forceU : List (Nat × RowS) → (List (Nat × RowS) → α) → α
  | [], K => K []
  | (r, ⟨n, x⟩) :: l, K => forceN r fun r => forceN n fun n => forceRow x fun x => forceU l fun l => K ((r, ⟨n, x⟩) :: l)
theorem forceU_eq : ∀ (l : List (Nat × RowS)) (K : List (Nat × RowS) → α), forceU l K = K l
  | [], K => rfl
  | (r, ⟨n, x⟩) :: l, K => by simp only [forceU, forceN_eq, forceRow_eq, forceU_eq l]
noncomputable def forceO (o : Out) (K : Out → α) : α := match o with
  | ⟨ok, some v, u⟩ => forceV v fun v => forceU u fun u => K ⟨ok, some v, u⟩
  | ⟨ok, none, u⟩ => forceU u fun u => K ⟨ok, none, u⟩
theorem forceO_eq (o : Out) (K : Out → α) : forceO o K = K o := by
  obtain ⟨ok, v, u⟩ := o
  cases v <;> simp only [forceO, forceV_eq, forceU_eq]
end

section
variable {R : Type} (T : TT) (modes : Nat → List Mode) (nt : Nat)
  (callK : Nat → List PV → List RowS → (List PV → List RowS → Option R) → Option R)

noncomputable def doOpQ (key : Nat) (o : Oper) (st : St) (K : St → Option R) : Option R :=
  match o.op with
  | .call ⟨.value f, as, _⟩ => match look st f, as.toList.mapM (look st) with
    | some (.fn g caps), some vs => match prep key (modes g) st.rows (vs ++ caps) with
      | some p => forceV.forceAll p.args fun args => forceRs p.rowsIn fun rin => forceNs p.ids fun ids => forceP p.lent fun lp => callK g args rin fun res rowsOut => match done key ⟨args, rin, ids, p.rows, lp⟩ res rowsOut with
        | some out => forceO out fun out => if freeAll p.rows ids.length out.upd then (bif out.ok then K ⟨putDst nt st.env o.dst out.v, updAll p.rows out.upd⟩ else none) else none
        | none => none
      | none => none
    | _, _ => none
  | .next x false => match look st x with
    | some (.ptr r 0) => match st.rows r with
      | some ⟨n, .mp 1 p kt vt bx l none⟩ => allOf l.length fun i => K ⟨putDst nt st.env o.dst (some (.tup [mb (!l.isEmpty)])), upd st.rows r (some ⟨n + 1, .mp 2 p kt vt bx (bring i l) none⟩)⟩
      | _ => none
    | _ => none
  | op => match opOut T key op (look st) st.rows with
    | some out => forceO out fun out => if isFree st.rows key then (bif out.ok then K ⟨putDst nt st.env o.dst out.v, updAll st.rows out.upd⟩ else none) else none
    | none => none
theorem doOpQ_eq (key : Nat) (o : Oper) (st : St) (K : St → Option R) : doOpQ T modes nt callK key o st K = doOp T modes nt callK key o st K := by
  unfold doOpQ doOp
  simp only [forceAll_eq, forceRs_eq, forceNs_eq, forceP_eq, forceO_eq]
  rfl

noncomputable def doOpsQ (ops : Array Oper) (rid : Nat) : Nat → List Oper → St → (St → Option R) → Option R
  | _, [], st, K => K st
  | i, o :: l, st, K => match o.guard with
    | none => forceN (((rid + 1) * 2048 + i) * 8) fun key => doOpQ T modes nt callK key o st fun st' => doOpsQ ops rid (Nat.succ i) l st' K
    | some (j, want) => match (ops[j]?).bind (·.dst) with
      | some d => match st.env d with
        | some (.val [] .bool b) => bif b == want
            then forceN (((rid + 1) * 2048 + i) * 8) fun key => doOpQ T modes nt callK key o ⟨upd st.env d (some (mb want)), st.rows⟩ fun st' => doOpsQ ops rid (Nat.succ i) l st' K
            else doOpsQ ops rid (Nat.succ i) l ⟨putDst nt (upd st.env d (some (mb (!want)))) o.dst none, st.rows⟩ K
        | some .und => doOpsQ ops rid (Nat.succ i) l ⟨putDst nt st.env o.dst none, st.rows⟩ K
        | _ => none
      | none => none
theorem doOpsQ_eq (ops : Array Oper) (rid : Nat) : ∀ (l : List Oper) (i : Nat) (st : St) (K : St → Option R), doOpsQ T modes nt callK ops rid i l st K = doOps T modes nt callK ops rid i l st K
  | [], i, st, K => rfl
  | o :: l, i, st, K => by
    simp only [doOpsQ, doOps, forceN_eq, doOpQ_eq, doOpsQ_eq ops rid l]
    rfl

noncomputable def cutQ (sl : List Nat) (fp : Foot) (key : Nat) (st : St) : St :=
  ⟨fun s => if sl.any (fun x => x == s) then st.env s else none, fun r => if inFoot fp key r then st.rows r else if r == 0 then none else some ⟨0, .gone⟩⟩
noncomputable def drawRunQ (ops : Array Oper) (fp : Foot) (key : Nat) (o : Oper) (st : St) (K : St → Option R) : Option R :=
  match ptrOp T o st with
  | some v => forceV v fun v => K ⟨putDst nt st.env o.dst (some v), st.rows⟩
  | none => forceNs (slotsOf ops o) fun sl => doOpQ T modes nt callK key o (cutQ sl fp key st) fun st' => if localOk fp key o (cutQ sl fp key st) st' then K (joinSt fp key o st st') else none
theorem drawRunQ_eq (ops : Array Oper) (fp : Foot) (key : Nat) (o : Oper) (st : St) (K : St → Option R) : drawRunQ T modes nt callK ops fp key o st K = drawRun T modes nt callK ops fp key o st K := by
  unfold drawRunQ drawRun
  simp only [forceV_eq, forceNs_eq, doOpQ_eq]
  rfl
noncomputable def drawOpQ (ops : Array Oper) (fp : Foot) (key : Nat) (o : Oper) (st : St) (K : St → Option R) : Option R := match o.guard with
  | none => drawRunQ T modes nt callK ops fp key o st K
  | some (j, want) => match (ops[j]?).bind (·.dst) with
    | some d => match st.env d with
      | some (.val [] .bool b) => bif b == want
          then drawRunQ T modes nt callK ops fp key o ⟨upd st.env d (some (mb want)), st.rows⟩ K
          else K ⟨putDst nt (upd st.env d (some (mb (!want)))) o.dst none, st.rows⟩
      | some .und => K ⟨putDst nt st.env o.dst none, st.rows⟩
      | _ => none
    | none => none
theorem drawOpQ_eq (ops : Array Oper) (fp : Foot) (key : Nat) (o : Oper) (st : St) (K : St → Option R) : drawOpQ T modes nt callK ops fp key o st K = drawOp T modes nt callK ops fp key o st K := by
  unfold drawOpQ drawOp
  simp only [drawRunQ_eq]
  rfl
noncomputable def doDrawQ (ops : Array Oper) (fps : List Foot) (rid : Nat) : List Nat → St → (St → Option R) → Option R
  | [], st, K => K st
  | i :: l, st, K => match ops[i]? with
    | some o => forceN (keyAt rid i) fun key => forceNs (footAt fps i).reads fun rd => forceNs (footAt fps i).writes fun wr => drawOpQ T modes nt callK ops ⟨rd, wr⟩ key o st fun st' => doDrawQ ops fps rid l st' K
    | none => none
theorem doDrawQ_eq (ops : Array Oper) (fps : List Foot) (rid : Nat) : ∀ (l : List Nat) (st : St) (K : St → Option R), doDrawQ T modes nt callK ops fps rid l st K = doDraw T modes nt callK ops fps rid l st K
  | [], st, K => rfl
  | i :: l, st, K => by
    simp only [doDrawQ, doDraw, forceN_eq, forceNs_eq, drawOpQ_eq, doDrawQ_eq ops fps rid l]
    rfl
end
end Go.Proofs.Ytecnlienmpdlaaa.PM

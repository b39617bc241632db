import Derived.Test.YtecnlienmpdlaaaGreatPmC
set_option linter.unusedSimpArgs false
set_option linter.unusedVariables false
namespace Go.Proofs.YtecnlienmpdlaaaGreat.PM
open Go
noncomputable section
section
variable {α : Type}
def forceN (n : Nat) (K : Nat → α) : α := match n with
 | 0 => K 0
 | m + 1 => K (Nat.succ m)
theorem Q13 (n : Nat) (K : Nat → α) : forceN n K = K n := by cases n <;> rfl
def Q76 : List Nat → (List Nat → α) → α
 | [], K => K []
 | n :: l, K => forceN n fun n => Q76 l fun l => K (n :: l)
theorem Q6f : ∀ (l : List Nat) (K : List Nat → α), Q76 l K = K l
 | [], K => rfl
 | n :: l, K => by simp only [Q76, Q13, Q6f l]
def forceP : Prov → (Prov → α) → α
 | [], K => K []
 | (r, n) :: l, K => forceN r fun r => forceN n fun n => forceP l fun l => K ((r, n) :: l)
theorem Q32 : ∀ (l : Prov) (K : Prov → α), forceP l K = K l
 | [], K => rfl
 | (r, n) :: l, K => by simp only [forceP, Q13, Q32 l]
def forceV : PV → (PV → α) → α
 | .val p t x, K => forceP p fun p => K (.val p t x)
 | .nils, K => K .nils
 | .rw r, K => forceN r fun r => K (.rw r)
 | .rs r off len, K => forceN r fun r => K (.rs r off len)
 | .ptr r off, K => forceN r fun r => forceN off fun off => K (.ptr r off)
 | .pel r i off, K => forceN r fun r => forceN off fun off => K (.pel r i off)
 | .pvl p t l i off, K => forceP p fun p => forceN off fun off => K (.pvl p t l i off)
 | .nilp, K => K .nilp
 | .fn f l, K => forceN f fun f => forceAll l fun l => K (.fn f l)
 | .agg l, K => forceAll l fun l => K (.agg l)
 | .tup l, K => forceAll l fun l => K (.tup l)
 | .lit v, K => K (.lit v)
 | .und, K => K .und
where forceAll : List PV → (List PV → α) → α
 | [], K => K []
 | v :: l, K => forceV v fun v => forceAll l fun l => K (v :: l)
mutual
theorem Qcb : ∀ (v : PV) (K : PV → α), forceV v K = K v
 | .val p t x, K => by simp only [forceV, Q32]
 | .nils, K => rfl
 | .rw r, K => by simp only [forceV, Q13]
 | .rs r off len, K => by simp only [forceV, Q13]
 | .ptr r off, K => by simp only [forceV, Q13]
 | .pel r i off, K => by simp only [forceV, Q13]
 | .pvl p t l i off, K => by simp only [forceV, Q13, Q32]
 | .nilp, K => rfl
 | .fn f l, K => by simp only [forceV, Q13, Q2b l]
 | .agg l, K => by simp only [forceV, Q2b l]
 | .tup l, K => by simp only [forceV, Q2b l]
 | .lit v, K => rfl
 | .und, K => rfl
theorem Q2b : ∀ (l : List PV) (K : List PV → α), forceV.forceAll l K = K l
 | [], K => rfl
 | v :: l, K => by simp only [forceV.forceAll, Qcb v, Q2b l]
end
def Q6g : Row → (Row → α) → α
 | .arr p t l, K => forceP p fun p => K (.arr p t l)
 | .vars l, K => forceV.forceAll l fun l => K (.vars l)
 | .gone, K => K .gone
 | .mp it p kt vt bx l none, K => forceP p fun p => K (.mp it p kt vt bx l none)
 | .mp it p kt vt bx l (some (k, r)), K => forceP p fun p => forceN r fun r => K (.mp it p kt vt bx l (some (k, r)))
theorem Qca (x : Row) (K : Row → α) : Q6g x K = K x := by
 cases x
 case mp it p kt vt bx l tk =>
  cases tk with
  | none => simp only [Q6g, Q32]
  | some y => obtain ⟨k, r⟩ := y; simp only [Q6g, Q32, Q13]
 all_goals simp only [Q6g, Q32, Q2b]
def Qip : List RowS → (List RowS → α) → α
 | [], K => K []
 | ⟨n, x⟩ :: l, K => forceN n fun n => Q6g x fun x => Qip l fun l => K (⟨n, x⟩ :: l)
theorem Qf5 : ∀ (l : List RowS) (K : List RowS → α), Qip l K = K l
 | [], K => rfl
 | ⟨n, x⟩ :: l, K => by simp only [Qip, Q13, Qca, Qf5 l]
def forceU : List (Nat × RowS) → (List (Nat × RowS) → α) → α
 | [], K => K []
 | (r, ⟨n, x⟩) :: l, K => forceN r fun r => forceN n fun n => Q6g x fun x => forceU l fun l => K ((r, ⟨n, x⟩) :: l)
theorem Qlg : ∀ (l : List (Nat × RowS)) (K : List (Nat × RowS) → α), forceU l K = K l
 | [], K => rfl
 | (r, ⟨n, x⟩) :: l, K => by simp only [forceU, Q13, Qca, Qlg l]
def forceO (o : Out) (K : Out → α) : α := match o with
 | ⟨ok, some v, u⟩ => forceV v fun v => forceU u fun u => K ⟨ok, some v, u⟩
 | ⟨ok, none, u⟩ => forceU u fun u => K ⟨ok, none, u⟩
theorem Q136 (o : Out) (K : Out → α) : forceO o K = K o := by
 obtain ⟨ok, v, u⟩ := o
 cases v <;> simp only [forceO, Qcb, Qlg]
end
section
variable {R : Type} (T : TT) (modes : Nat → List Mode) (nt : Nat)
 (callK : Nat → List PV → List RowS → (List PV → List RowS → Oq R) → Oq R)
def doOpQ (key : Nat) (o : Oper) (st : St) (K : St → Oq R) : Oq R :=
 match o.op with
 | .call ⟨.value f, as, _⟩ => match look st f, as.toList.mapM (look st) with
   | some (.fn g caps), some vs => match prep key (modes g) st.rows (vs ++ caps) with
     | some p => forceV.forceAll p.args fun args => Qip p.rowsIn fun rin => Q76 p.ids fun ids => forceP p.lent fun lp => callK g args rin fun res rowsOut => match done key ⟨args, rin, ids, p.rows, lp⟩ res rowsOut with
       | some out => forceO out fun out => if Q77 p.rows ids.length out.upd then (bif out.ok then K ⟨putDst nt st.env o.dst out.v, updAll p.rows out.upd⟩ else none) else none
       | none => none
     | none => none
   | _, _ => none
 | .next x false => match look st x with
   | some (.ptr r 0) => match st.rows r with
     | some ⟨n, .mp 1 p kt vt bx l none⟩ => allOf l.length fun i => K ⟨putDst nt st.env o.dst (some (.tup [mb (!l.isEmpty)])), upd st.rows r (some ⟨n + 1, .mp 2 p kt vt bx (bring i l) none⟩)⟩
     | _ => none
   | _ => none
 | op => match opOut T key op (look st) st.rows with
   | some out => forceO out fun out => if isFree st.rows key then (bif out.ok then K ⟨putDst nt st.env o.dst out.v, updAll st.rows out.upd⟩ else none) else none
   | none => none
theorem Qqt (key : Nat) (o : Oper) (st : St) (K : St → Oq R) : doOpQ T modes nt callK key o st K = doOp T modes nt callK key o st K := by
 unfold doOpQ doOp
 simp only [Q2b, Qf5, Q6f, Q32, Q136]
 rfl
def doOpsQ (ops : Array Oper) (rid : Nat) : Nat → List Oper → St → (St → Oq R) → Oq R
 | _, [], st, K => K st
 | i, o :: l, st, K => match o.guard with
   | none => forceN (((rid + 1) * 2048 + i) * 8) fun key => doOpQ T modes nt callK key o st fun st' => doOpsQ ops rid (Nat.succ i) l st' K
   | some (j, want) => match (ops[j]?).bind (·.dst) with
     | some d => match st.env d with
       | some (.val [] .bool b) => bif b == want
        then forceN (((rid + 1) * 2048 + i) * 8) fun key => doOpQ T modes nt callK key o ⟨upd st.env d (some (mb want)), st.rows⟩ fun st' => doOpsQ ops rid (Nat.succ i) l st' K
        else doOpsQ ops rid (Nat.succ i) l ⟨putDst nt (upd st.env d (some (mb (!want)))) o.dst none, st.rows⟩ K
       | some .und => doOpsQ ops rid (Nat.succ i) l ⟨putDst nt st.env o.dst none, st.rows⟩ K
       | _ => none
     | none => none
theorem Qka (ops : Array Oper) (rid : Nat) : ∀ (l : List Oper) (i : Nat) (st : St) (K : St → Oq R), doOpsQ T modes nt callK ops rid i l st K = doOps T modes nt callK ops rid i l st K
 | [], i, st, K => rfl
 | o :: l, i, st, K => by
   simp only [doOpsQ, doOps, Q13, Qqt, Qka ops rid l]
   rfl
def cutQ (sl : List Nat) (fp : Foot) (key : Nat) (st : St) : St :=
 ⟨fun s => if sl.any (fun x => x == s) then st.env s else none, fun r => if inFoot fp key r then st.rows r else if r == 0 then none else some ⟨0, .gone⟩⟩
def Qav (ops : Array Oper) (fp : Foot) (key : Nat) (o : Oper) (st : St) (K : St → Oq R) : Oq R :=
 match ptrOp T o st with
 | some v => forceV v fun v => K ⟨putDst nt st.env o.dst (some v), st.rows⟩
 | none => Q76 (Q2o ops o) fun sl => doOpQ T modes nt callK key o (cutQ sl fp key st) fun st' => if Q5l fp key o (cutQ sl fp key st) st' then K (joinSt fp key o st st') else none
theorem Qnj (ops : Array Oper) (fp : Foot) (key : Nat) (o : Oper) (st : St) (K : St → Oq R) : Qav T modes nt callK ops fp key o st K = Q4k T modes nt callK ops fp key o st K := by
 unfold Qav Q4k
 simp only [Qcb, Q6f, Qqt]
 rfl
def Qnh (ops : Array Oper) (fp : Foot) (key : Nat) (o : Oper) (st : St) (K : St → Oq R) : Oq R := match o.guard with
 | none => Qav T modes nt callK ops fp key o st K
 | some (j, want) => match (ops[j]?).bind (·.dst) with
   | some d => match st.env d with
     | some (.val [] .bool b) => bif b == want
      then Qav T modes nt callK ops fp key o ⟨upd st.env d (some (mb want)), st.rows⟩ K
      else K ⟨putDst nt (upd st.env d (some (mb (!want)))) o.dst none, st.rows⟩
     | some .und => K ⟨putDst nt st.env o.dst none, st.rows⟩
     | _ => none
   | none => none
theorem Qtc (ops : Array Oper) (fp : Foot) (key : Nat) (o : Oper) (st : St) (K : St → Oq R) : Qnh T modes nt callK ops fp key o st K = drawOp T modes nt callK ops fp key o st K := by
 unfold Qnh drawOp
 simp only [Qnj]
 rfl
def Qhw (ops : Array Oper) (fps : List Foot) (rid : Nat) : List Nat → St → (St → Oq R) → Oq R
 | [], st, K => K st
 | i :: l, st, K => match ops[i]? with
   | some o => forceN (keyAt rid i) fun key => Q76 (footAt fps i).reads fun rd => Q76 (footAt fps i).writes fun wr => Qnh T modes nt callK ops ⟨rd, wr⟩ key o st fun st' => Qhw ops fps rid l st' K
   | none => none
theorem Qe5 (ops : Array Oper) (fps : List Foot) (rid : Nat) : ∀ (l : List Nat) (st : St) (K : St → Oq R), Qhw T modes nt callK ops fps rid l st K = doDraw T modes nt callK ops fps rid l st K
 | [], st, K => rfl
 | i :: l, st, K => by
   simp only [Qhw, doDraw, Q13, Q6f, Qtc, Qe5 ops fps rid l]
   rfl
end
end
end Go.Proofs.YtecnlienmpdlaaaGreat.PM

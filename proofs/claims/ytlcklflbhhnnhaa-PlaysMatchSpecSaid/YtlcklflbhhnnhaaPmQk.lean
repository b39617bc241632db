/- The small machine PM: the same runs, told so that the kernel keeps what is known in short form (values, rows and numbers are looked at before they are handed on). -/
import Derived.Test.YtlcklflbhhnnhaaPmC
set_option linter.unusedSimpArgs false
set_option linter.unusedVariables false
namespace Go.Proofs.Ytlcklflbhhnnhaa.PM
open Go
section
variable {α : Type}
noncomputable def forceN (n : Nat) (K : Nat → α) : α := match n with
 | 0 => K 0
 | m + 1 => K (Nat.succ m)
theorem Q10 (n : Nat) (K : Nat → α) : forceN n K = K n := by cases n <;> rfl
noncomputable def Q5v : List Nat → (List Nat → α) → α
 | [], K => K []
 | n :: l, K => forceN n fun n => Q5v l fun l => K (n :: l)
theorem Q55 : ∀ (l : List Nat) (K : List Nat → α), Q5v l K = K l
 | [], K => rfl
 | n :: l, K => by simp only [Q5v, Q10, Q55 l]
noncomputable def forceP : Prov → (Prov → α) → α
 | [], K => K []
 | (r, n) :: l, K => forceN r fun r => forceN n fun n => forceP l fun l => K ((r, n) :: l)
theorem Q4k : ∀ (l : Prov) (K : Prov → α), forceP l K = K l
 | [], K => rfl
 | (r, n) :: l, K => by simp only [forceP, Q10, Q4k l]
noncomputable def forceV : PV → (PV → α) → α
 | .val p t x, K => forceP p fun p => K (.val p t x)
 | .nils, K => K .nils
 | .rw r, K => forceN r fun r => K (.rw r)
 | .rs r off len, K => forceN r fun r => K (.rs r off len)
 | .ptr r off, K => forceN r fun r => forceN off fun off => K (.ptr r off)
 | .pel r i off, K => forceN r fun r => forceN off fun off => K (.pel r i off)
 | .pvl p t l i off, K => forceP p fun p => forceN off fun off => K (.pvl p t l i off)
 | .nilp, K => K .nilp
 | .fn f l, K => forceN f fun f => forceAll l fun l => K (.fn f l)
 | .agg l, K => forceAll l fun l => K (.agg l)
 | .tup l, K => forceAll l fun l => K (.tup l)
 | .lit v, K => K (.lit v)
 | .und, K => K .und
where forceAll : List PV → (List PV → α) → α
 | [], K => K []
 | v :: l, K => forceV v fun v => forceAll l fun l => K (v :: l)
mutual
theorem Qau : ∀ (v : PV) (K : PV → α), forceV v K = K v
 | .val p t x, K => by simp only [forceV, Q4k]
 | .nils, K => rfl
 | .rw r, K => by simp only [forceV, Q10]
 | .rs r off len, K => by simp only [forceV, Q10]
 | .ptr r off, K => by simp only [forceV, Q10]
 | .pel r i off, K => by simp only [forceV, Q10]
 | .pvl p t l i off, K => by simp only [forceV, Q10, Q4k]
 | .nilp, K => rfl
 | .fn f l, K => by simp only [forceV, Q10, Q1z l]
 | .agg l, K => by simp only [forceV, Q1z l]
 | .tup l, K => by simp only [forceV, Q1z l]
 | .lit v, K => rfl
 | .und, K => rfl
theorem Q1z : ∀ (l : List PV) (K : List PV → α), forceV.forceAll l K = K l
 | [], K => rfl
 | v :: l, K => by simp only [forceV.forceAll, Qau v, Q1z l]
end
noncomputable def Q9a : Row → (Row → α) → α
 | .arr p t l, K => forceP p fun p => K (.arr p t l)
 | .vars l, K => forceV.forceAll l fun l => K (.vars l)
 | .gone, K => K .gone
theorem Qat (x : Row) (K : Row → α) : Q9a x K = K x := by cases x <;> simp only [Q9a, Q4k, Q1z]
noncomputable def Qgd : List RowS → (List RowS → α) → α
 | [], K => K []
 | ⟨n, x⟩ :: l, K => forceN n fun n => Q9a x fun x => Qgd l fun l => K (⟨n, x⟩ :: l)
theorem Qdk : ∀ (l : List RowS) (K : List RowS → α), Qgd l K = K l
 | [], K => rfl
 | ⟨n, x⟩ :: l, K => by simp only [Qgd, Q10, Qat, Qdk l]
noncomputable def forceU : List (Nat × RowS) → (List (Nat × RowS) → α) → α
 | [], K => K []
 | (r, ⟨n, x⟩) :: l, K => forceN r fun r => forceN n fun n => Q9a x fun x => forceU l fun l => K ((r, ⟨n, x⟩) :: l)
theorem Qji : ∀ (l : List (Nat × RowS)) (K : List (Nat × RowS) → α), forceU l K = K l
 | [], K => rfl
 | (r, ⟨n, x⟩) :: l, K => by simp only [forceU, Q10, Qat, Qji l]
noncomputable def forceO (o : Out) (K : Out → α) : α := match o with
 | ⟨ok, some v, u⟩ => forceV v fun v => forceU u fun u => K ⟨ok, some v, u⟩
 | ⟨ok, none, u⟩ => forceU u fun u => K ⟨ok, none, u⟩
theorem Q11j (o : Out) (K : Out → α) : forceO o K = K o := by
 obtain ⟨ok, v, u⟩ := o
 cases v <;> simp only [forceO, Qau, Qji]
end
section
variable {R : Type} (T : TT) (modes : Nat → List Mode) (nt : Nat)
 (callK : Nat → List PV → List RowS → (List PV → List RowS → Option R) → Option R)
noncomputable def doOpQ (key : Nat) (o : Oper) (st : St) (K : St → Option R) : Option R :=
 match o.op with
 | .call ⟨.value f, as, _⟩ => match look st f, as.toList.mapM (look st) with
   | some (.fn g caps), some vs => match prep key (modes g) st.rows (vs ++ caps) with
     | some p => forceV.forceAll p.args fun args => Qgd p.rowsIn fun rin => Q5v p.ids fun ids => forceP p.lent fun lp => callK g args rin fun res rowsOut => match done key ⟨args, rin, ids, p.rows, lp⟩ res rowsOut with
       | some out => forceO out fun out => if Q7e p.rows ids.length out.upd then (bif out.ok then K ⟨putDst nt st.env o.dst out.v, updAll p.rows out.upd⟩ else none) else none
       | none => none
     | none => none
   | _, _ => none
 | op => match opOut T key op (look st) st.rows with
   | some out => forceO out fun out => if isFree st.rows key then (bif out.ok then K ⟨putDst nt st.env o.dst out.v, updAll st.rows out.upd⟩ else none) else none
   | none => none
theorem Qqc (key : Nat) (o : Oper) (st : St) (K : St → Option R) : doOpQ T modes nt callK key o st K = doOp T modes nt callK key o st K := by
 unfold doOpQ doOp
 simp only [Q1z, Qdk, Q55, Q4k, Q11j]
 rfl
noncomputable def doOpsQ (ops : Array Oper) (rid : Nat) : Nat → List Oper → St → (St → Option R) → Option R
 | _, [], st, K => K st
 | i, o :: l, st, K => match o.guard with
   | none => forceN (((rid + 1) * 2048 + i) * 8) fun key => doOpQ T modes nt callK key o st fun st' => doOpsQ ops rid (Nat.succ i) l st' K
   | some (j, want) => match (ops[j]?).bind (·.dst) with
     | some d => match st.env d with
       | some (.val [] .bool b) => bif b == want
        then forceN (((rid + 1) * 2048 + i) * 8) fun key => doOpQ T modes nt callK key o ⟨upd st.env d (some (mb want)), st.rows⟩ fun st' => doOpsQ ops rid (Nat.succ i) l st' K
        else doOpsQ ops rid (Nat.succ i) l ⟨putDst nt (upd st.env d (some (mb (!want)))) o.dst none, st.rows⟩ K
       | some .und => doOpsQ ops rid (Nat.succ i) l ⟨putDst nt st.env o.dst none, st.rows⟩ K
       | _ => none
     | none => none
theorem Qiw (ops : Array Oper) (rid : Nat) : ∀ (l : List Oper) (i : Nat) (st : St) (K : St → Option R), doOpsQ T modes nt callK ops rid i l st K = doOps T modes nt callK ops rid i l st K
 | [], i, st, K => rfl
 | o :: l, i, st, K => by
   simp only [doOpsQ, doOps, Q10, Qqc, Qiw ops rid l]
   rfl
noncomputable def cutQ (sl : List Nat) (fp : Foot) (key : Nat) (st : St) : St :=
 ⟨fun s => if sl.any (fun x => x == s) then st.env s else none, fun r => if inFoot fp key r then st.rows r else if r == 0 then none else some ⟨0, .gone⟩⟩
noncomputable def Q8z (ops : Array Oper) (fp : Foot) (key : Nat) (o : Oper) (st : St) (K : St → Option R) : Option R :=
 match ptrOp T o st with
 | some v => forceV v fun v => K ⟨putDst nt st.env o.dst (some v), st.rows⟩
 | none => Q5v (Q32 ops o) fun sl => doOpQ T modes nt callK key o (cutQ sl fp key st) fun st' => if Qb9 fp key o (cutQ sl fp key st) st' then K (joinSt fp key o st st') else none
theorem Qm4 (ops : Array Oper) (fp : Foot) (key : Nat) (o : Oper) (st : St) (K : St → Option R) : Q8z T modes nt callK ops fp key o st K = Q3e T modes nt callK ops fp key o st K := by
 unfold Q8z Q3e
 simp only [Qau, Q55, Qqc]
 rfl
noncomputable def Qm2 (ops : Array Oper) (fp : Foot) (key : Nat) (o : Oper) (st : St) (K : St → Option R) : Option R := match o.guard with
 | none => Q8z T modes nt callK ops fp key o st K
 | some (j, want) => match (ops[j]?).bind (·.dst) with
   | some d => match st.env d with
     | some (.val [] .bool b) => bif b == want
      then Q8z T modes nt callK ops fp key o ⟨upd st.env d (some (mb want)), st.rows⟩ K
      else K ⟨putDst nt (upd st.env d (some (mb (!want)))) o.dst none, st.rows⟩
     | some .und => K ⟨putDst nt st.env o.dst none, st.rows⟩
     | _ => none
   | none => none
theorem Qsz (ops : Array Oper) (fp : Foot) (key : Nat) (o : Oper) (st : St) (K : St → Option R) : Qm2 T modes nt callK ops fp key o st K = drawOp T modes nt callK ops fp key o st K := by
 unfold Qm2 drawOp
 simp only [Qm4]
 rfl
noncomputable def Qf5 (ops : Array Oper) (fps : List Foot) (rid : Nat) : List Nat → St → (St → Option R) → Option R
 | [], st, K => K st
 | i :: l, st, K => match ops[i]? with
   | some o => forceN (keyAt rid i) fun key => Q5v (footAt fps i).reads fun rd => Q5v (footAt fps i).writes fun wr => Qm2 T modes nt callK ops ⟨rd, wr⟩ key o st fun st' => Qf5 ops fps rid l st' K
   | none => none
theorem Qcz (ops : Array Oper) (fps : List Foot) (rid : Nat) : ∀ (l : List Nat) (st : St) (K : St → Option R), Qf5 T modes nt callK ops fps rid l st K = doDraw T modes nt callK ops fps rid l st K
 | [], st, K => rfl
 | i :: l, st, K => by
   simp only [Qf5, doDraw, Q10, Q55, Qsz, Qcz ops fps rid l]
   rfl
end
end Go.Proofs.Ytlcklflbhhnnhaa.PM

import Derived.Test.YtecnlienmpdlaaaGreatPmB
namespace Go.Proofs.YtecnlienmpdlaaaGreat.PM
open Go
noncomputable section
def findN {β : Type} : List (Nat × β) → Nat → Option β
 | [], _ => none
 | (a, b) :: l, x => if a == x then some b else findN l x
def dedup : Prov → Prov
 | [] => []
 | (r, n) :: l => if (dedup l).any (fun q => q.1 == r) then dedup l else (r, n) :: dedup l
def Qs (leave : Option Prov) (m : List (Nat × Nat)) (rows : Rows) : Prov → Prov
 | [] => []
 | (r, n) :: l => match findN m r with
   | some r' => (r', 0) :: Qs leave m rows l
   | none => match rows r with
     | none => if r == 0 then (0, n) :: Qs leave m rows l else Qs leave m rows l
     | some _ => if leave.isSome then (0, 0) :: Qs leave m rows l else Qs leave m rows l
def covers (leave : Option Prov) (m : List (Nat × Nat)) (p : Prov) : Bool := match leave with
 | none => true
 | some lp => p.all fun q => (findN m q.1).isSome || lp.any fun z => z.1 == q.1
def ren (leave : Option Prov) (m : List (Nat × Nat)) (rows : Rows) : PV → Option PV
 | .val p t x => if okProv rows p && covers leave m p then some (.val (dedup (Qs leave m rows p)) t x) else none
 | .nils => some .nils
 | .nilp => some .nilp
 | .lit v => some (.lit v)
 | .und => some .und
 | .rw r => match findN m r with
   | some r' => some (.rw r')
   | none => none
 | .rs r off len => match findN m r with
   | some r' => some (.rs r' off len)
   | none => none
 | .ptr r off => match findN m r with
   | some r' => some (.ptr r' off)
   | none => none
 | .pel r i off => match findN m r with
   | some r' => some (.pel r' i off)
   | none => none
 | .pvl p t l i off => if okProv rows p && covers leave m p then some (.pvl (dedup (Qs leave m rows p)) t l i off) else none
 | .fn f l => match renAll leave m rows l with
   | some l' => some (.fn f l')
   | none => none
 | .agg l => match renAll leave m rows l with
   | some l' => some (.agg l')
   | none => none
 | .tup l => match renAll leave m rows l with
   | some l' => some (.tup l')
   | none => none
where renAll (leave : Option Prov) (m : List (Nat × Nat)) (rows : Rows) : List PV → Option (List PV)
 | [] => some []
 | v :: l => match ren leave m rows v with
   | some v' => match renAll leave m rows l with
     | some l' => some (v' :: l')
     | none => none
   | none => none
def renRow (leave : Option Prov) (m : List (Nat × Nat)) (rows : Rows) : Row → Option Row
 | .arr p t l => if okProv rows p && covers leave m p then some (.arr (dedup (Qs leave m rows p)) t l) else none
 | .vars l => match ren.renAll leave m rows l with
   | some l' => some (.vars l')
   | none => none
 | .gone => some .gone
 | .mp it p kt vt bx l tk => if okProv rows p && covers leave m p then (match tk with
   | none => some (.mp it (dedup (Qs leave m rows p)) kt vt bx l none)
   | some (k, r) => match findN m r with
     | some r' => some (.mp it (dedup (Qs leave m rows p)) kt vt bx l (some (k, r')))
     | none => none) else none
def Qj3 (leave : Option Prov) (m : List (Nat × Nat)) (rows : Rows) : List Nat → Option (List RowS)
 | [] => some []
 | r :: l => match rows r with
   | some s => match renRow leave m rows s.row with
     | some x => match Qj3 leave m rows l with
       | some l' => some (⟨0, x⟩ :: l')
       | none => none
     | none => none
   | none => none
def rowIds (rows : Rows) (r : Nat) : List Nat := match rows r with
 | some ⟨_, .vars l⟩ => idsOf.idsAll l
 | some ⟨_, .mp _ _ _ _ _ _ (some (_, r))⟩ => [r]
 | _ => []
def reach (rows : Rows) : Nat → List Nat → List Nat → Option (List Nat)
 | 0, _, _ => none
 | _ + 1, [], acc => some acc
 | n + 1, r :: todo, acc => if acc.any (fun x => x == r) then reach rows n todo acc else reach rows n (rowIds rows r ++ todo) (acc ++ [r])
def upTo : Nat → List Nat
 | 0 => []
 | n + 1 => upTo n ++ [n + 1]
def Qe : Nat → List Nat → List (Nat × Nat)
 | _, [] => []
 | n, r :: l => (r, n) :: Qe (n + 1) l
def Qcy : PV → Prov
 | .val p _ _ => p
 | .pvl p _ _ _ _ => p
 | .fn _ l | .agg l | .tup l => provsAll l
 | _ => []
where provsAll : List PV → Prov
 | [] => []
 | v :: l => Qcy v ++ provsAll l
def Qsu (rows : Rows) (r : Nat) : Prov := match rows r with
 | some ⟨_, .arr p _ _⟩ => p
 | some ⟨_, .vars l⟩ => Qcy.provsAll l
 | some ⟨_, .mp _ p _ _ _ _ _⟩ => p
 | _ => []
def lentOf (rows : Rows) (ids : List Nat) (vs : List PV) : Prov :=
 dedup ((Qcy.provsAll vs ++ ids.flatMap (Qsu rows)).filter fun q => !(ids.any fun x => x == q.1))
def pack (leave : Bool) (rows : Rows) (n : Nat) (vs : List PV) : Option (List PV × List RowS × List Nat) :=
 match reach rows 400 ((upTo n).flatMap (rowIds rows) ++ idsOf.idsAll vs) (upTo n) with
 | some ids => match ren.renAll (if leave then some (lentOf rows ids vs) else none) (Qe 1 ids) rows vs, Qj3 (if leave then some (lentOf rows ids vs) else none) (Qe 1 ids) rows ids with
   | some vs', some rs => some (vs', rs, ids)
   | _, _ => none
 | none => none
def rowAt : List RowS → Nat → Option RowS
 | [], _ => none
 | s :: l, r => if r == 1 then some s else rowAt l (r - 1)
def rowsOf (l : List RowS) : Rows := fun r => if r == 0 then none else rowAt l r
inductive Mode where
 | any | own (t : Ty) | trim (t : Ty) | move (t : Ty) | value (t : Ty) | lend (t : Ty) | cells (ms : List Mode) | drop (r : Nat) (m : Mode) | tie (m : Mode) | wide (rs : List Nat) (m : Mode) | ice (rs : List Nat) (m : Mode)
def addRow (rows : Rows) (key : Nat) (x : Row) : Option (Rows × Nat) := match rows key with
 | none => some (upd rows key (some ⟨0, x⟩), key + 1)
 | some _ => none
def curs (rows : Rows) : List Nat → Option Prov
 | [] => some []
 | r :: rs => match rows r with
   | some ⟨n, .arr _ _ _⟩ => match curs rows rs with
     | some q => some ((r, n) :: q)
     | none => none
   | _ => none
def freeze (keep : List Nat) : Rows → Prov → Option Rows
 | rows, [] => some rows
 | rows, (r, _) :: p => if r == 0 || keep.any (fun x => x == r) then freeze keep rows p else match rows r with
   | some ⟨n, .arr _ _ _⟩ => freeze keep (upd rows r (some ⟨n, .gone⟩)) p
   | some ⟨_, .gone⟩ => freeze keep rows p
   | _ => none
def iceP (rows : Rows) : List PV → Prov
 | [] => []
 | .val p _ _ :: l => if okProv rows p then p ++ iceP rows l else iceP rows l
 | _ :: l => iceP rows l
def stripP (keep : List Nat) : Prov → Prov
 | [] => []
 | (r, n) :: p => if r == 0 || keep.any (fun x => x == r) then (r, n) :: stripP keep p else stripP keep p
def stripV (keep : List Nat) (rows : Rows) : PV → PV
 | .val p t x => if okProv rows p then .val (stripP keep p) t x else .val p t x
 | v => v
def stripL (keep : List Nat) (rows : Rows) : List PV → List PV
 | [] => []
 | v :: l => stripV keep rows v :: stripL keep rows l
def ownL : List PV → List Nat
 | [] => []
 | .rw r :: l => r :: ownL l
 | .rs r _ _ :: l => r :: ownL l
 | _ :: l => ownL l
def rowP (rows : Rows) : List Nat → Prov
 | [] => []
 | r :: rs => match rows r with
   | some ⟨_, .arr p _ _⟩ => if okProv rows p then p ++ rowP rows rs else rowP rows rs
   | _ => rowP rows rs
def Q6m (keep : List Nat) (rows : Rows) : Rows → List Nat → Option Rows
 | cur, [] => some cur
 | cur, r :: rs => match rows r with
   | some ⟨_, .arr p t l⟩ => if okProv rows p then (match cur r with
     | some ⟨n, .arr _ _ _⟩ => Q6m keep rows (upd cur r (some ⟨n + 1, .arr (stripP keep p) t l⟩)) rs
     | _ => none) else Q6m keep rows cur rs
   | _ => Q6m keep rows cur rs
def melt (keep : List Nat) (rows : Rows) (l : List PV) : Option Rows := match freeze keep rows (iceP rows l ++ rowP rows (ownL l)) with
 | some rows1 => Q6m keep rows rows1 (ownL l)
 | none => none
def ices (keep : List Nat) (rows : Rows) : PV → Option (PV × Rows)
 | .ptr r off => match rows r with
   | some ⟨_, .vars l⟩ => match melt (ownL l ++ keep) rows l with
     | some rows1 => match rows1 r with
       | some ⟨n, .vars l0⟩ => if l.length == l0.length then some (.ptr r off, upd rows1 r (some ⟨n + 1, .vars (stripL (ownL l ++ keep) rows l)⟩)) else none
       | _ => none
     | none => none
   | _ => none
 | .agg l => match melt (ownL l ++ keep) rows l with
   | some rows1 => if okPV.okAll rows l then some (.agg (stripL (ownL l ++ keep) rows l), rows1) else none
   | none => none
 | _ => none
def coerce : Mode → Rows → Nat → PV → Option (PV × Rows × Nat)
 | .any, rows, key, v => some (v, rows, key)
 | .own t, rows, key, .nils => match addRow rows key (.arr [] t []) with
   | some (rows', k) => some (.rw key, rows', k)
   | none => none
 | .own _, rows, key, .rw r => some (.rw r, rows, key)
 | .own _, _, _, _ => none
 | .trim t, rows, key, .nils => match addRow rows key (.arr [] t []) with
   | some (rows', k) => some (.rw key, rows', k)
   | none => none
 | .trim _, rows, key, .rw r => some (.rw r, rows, key)
 | .trim _, rows, key, .rs r off len => match rows r with
   | some ⟨n, .arr p t l⟩ => match addRow (upd rows r (some ⟨n, .gone⟩)) key (.arr p t ((l.drop off).take len)) with
     | some (rows', k) => some (.rw key, rows', k)
     | none => none
   | _ => none
 | .trim _, _, _, _ => none
 | .move t, rows, key, .nils => match addRow rows key (.arr [] t []) with
   | some (rows', k) => some (.rw key, rows', k)
   | none => none
 | .move _, rows, key, .rw r => match rows r with
   | some ⟨n, .arr p t l⟩ => match addRow (upd rows r (some ⟨n, .gone⟩)) key (.arr p t l) with
     | some (rows', k) => some (.rw key, rows', k)
     | none => none
   | _ => none
 | .move _, rows, key, .rs r off len => match rows r with
   | some ⟨n, .arr p t l⟩ => match addRow (upd rows r (some ⟨n, .gone⟩)) key (.arr p t ((l.drop off).take len)) with
     | some (rows', k) => some (.rw key, rows', k)
     | none => none
   | _ => none
 | .move _, _, _, _ => none
 | .drop r m, rows, key, v => match coerce m rows key v with
   | some (v', rows', k) => match rows' r with
     | some ⟨n, .arr _ _ _⟩ => some (v', upd rows' r (some ⟨n, .gone⟩), k)
     | _ => some (v', rows', k)
   | none => none
 | .tie m, rows, key, v => match coerce m rows key v with
   | some (.rw r, rows', k) => match rows' r with
     | some ⟨n, .arr p t l⟩ => some (.rw r, upd rows' r (some ⟨n + 1, .arr ((0, 0) :: p) t l⟩), k)
     | some ⟨n, .mp it p kt vt bx l tk⟩ => some (.rw r, upd rows' r (some ⟨n + 1, .mp it ((0, 0) :: p) kt vt bx l tk⟩), k)
     | _ => none
   | _ => none
 | .wide rs m, rows, key, v => match coerce m rows key v with
   | some (.val p t x, rows1, k) => if okProv rows1 p then (match freeze rs rows1 p with
     | some rows' => match curs rows' rs with
       | some q => some (.val ((0, 0) :: q) t x, rows', k)
       | none => none
     | none => none) else none
   | _ => none
 | .ice rs m, rows, key, v => match ices rs rows v with
   | some (v1, rows1) => coerce m rows1 key v1
   | none => none
 | .value t, rows, key, v => if okPV rows v then (match toVal rows v with
   | some .nils => some (.val [] (.slice t) [], rows, key)
   | some x => some (x, rows, key)
   | none => none) else none
 | .lend t, rows, key, v => if okPV rows v then (match toVal rows v with
   | some .nils => some (.val [(0, 0)] (.slice t) [], rows, key)
   | some (.val p t' x) => some (.val ((0, 0) :: p) t' x, rows, key)
   | _ => none) else none
 | .cells ms, rows, key, .ptr r off => match rows r with
   | some ⟨_, .vars l⟩ => match coerceL ms rows key l with
     | some (l', rows', k) => match rows' r with
       | some ⟨n, .vars l0⟩ => if l'.length = l0.length then some (.ptr r off, upd rows' r (some ⟨n + 1, .vars l'⟩), k) else none
       | _ => none
     | none => none
   | _ => none
 | .cells ms, rows, key, .agg l => if okPV.okAll rows l then (match coerceL ms rows key l with
   | some (l', rows', k) => some (.agg l', rows', k)
   | none => none) else none
 | .cells _, _, _, _ => none
where coerceL : List Mode → Rows → Nat → List PV → Option (List PV × Rows × Nat)
 | [], rows, key, l => some (l, rows, key)
 | _ :: _, _, _, [] => none
 | m :: ms, rows, key, v :: l => match coerce m rows key v with
   | some (v', rows', k) => match coerceL ms rows' k l with
     | some (l', rows'', k') => some (v' :: l', rows'', k')
     | none => none
   | none => none
def Qbj : List Mode → Rows → Nat → List PV → Option (List PV × Rows × Nat) := coerce.coerceL
def Q3s (st : St) : List (Nat × Mode) → Option (List PV)
 | [] => some []
 | (s, _) :: l => match look st (.tmp s) with
   | some v => match Q3s st l with
     | some vs => some (v :: vs)
     | none => none
   | none => none
def Q8j : List (Nat × Mode) → List PV → Env → Env
 | (s, _) :: l, v :: vs, e => Q8j l vs (upd e s (some v))
 | _, _, e => e
def norm (n key : Nat) (spec : List (Nat × Mode)) (st : St) : Option St := match Q3s st spec with
 | some vs => match Qbj (spec.map (·.2)) st.rows key vs with
   | some (vs', rows, _) => match pack false rows n vs' with
     | some (ws, rs, _) => some ⟨Q8j spec ws (fun _ => none), rowsOf rs⟩
     | none => none
   | none => none
 | none => none
structure Foot where
 reads : List Nat
 writes : List Nat
structure Ann where
 params : List Mode
 results : List Mode
 norms : List (Nat × List (Nat × Mode))
 loops : List (Nat × List (Nat × Mode))
 blocks : List (Nat × List (Nat × Mode))
 cuts : List (Nat × List (Nat × Mode))
 draws : List (Nat × List Foot)
 ifs : List (Nat × List (Nat × Mode))
 fis : List (Nat × List (Nat × Mode))
structure Prep where
 args : List PV
 rowsIn : List RowS
 ids : List Nat
 rows : Rows
 lent : Prov
def prep (key : Nat) (ms : List Mode) (rows : Rows) (args : List PV) : Option Prep := match Qbj ms rows key args with
 | some (vs, rows', _) => match pack true rows' 0 vs with
   | some (ws, rs, ids) => some ⟨ws, rs, ids, rows', lentOf rows' ids vs⟩
   | none => none
 | none => none
def Q1f (key : Nat) : Nat → List Nat → Nat → List (Nat × Nat)
 | i, g :: ids, n + 1 => (i, g) :: Q1f key (i + 1) ids n
 | i, [], n + 1 => (i, key) :: Q1f (key + 1) (i + 1) [] n
 | _, _, 0 => []
def Q2z (rows : Rows) (r : Nat) : Nat := match rows r with
 | some s => s.ver + 1
 | none => 0
def Q39 (m : List (Nat × Nat)) (rows : Rows) (lp : Prov) : Prov → Option Prov
 | [] => some []
 | (r, _) :: l => match Q39 m rows lp l with
   | some l' => if r == 0 then some (lp ++ l') else match findN m r with
     | some r' => some ((r', Q2z rows r') :: l')
     | none => none
   | none => none
def back (m : List (Nat × Nat)) (rows : Rows) (lp : Prov) : PV → Option PV
 | .val p t x => match Q39 m rows lp p with
   | some p' => some (.val p' t x)
   | none => none
 | .nils => some .nils
 | .nilp => some .nilp
 | .lit v => some (.lit v)
 | .und => none
 | .rw r => match findN m r with
   | some r' => some (.rw r')
   | none => none
 | .rs r off len => match findN m r with
   | some r' => some (.rs r' off len)
   | none => none
 | .ptr r off => match findN m r with
   | some r' => some (.ptr r' off)
   | none => none
 | .pel r i off => match findN m r with
   | some r' => some (.pel r' i off)
   | none => none
 | .pvl _ _ _ _ _ => none
 | .fn f l => match backAll m rows lp l with
   | some l' => some (.fn f l')
   | none => none
 | .agg l => match backAll m rows lp l with
   | some l' => some (.agg l')
   | none => none
 | .tup l => match backAll m rows lp l with
   | some l' => some (.tup l')
   | none => none
where backAll (m : List (Nat × Nat)) (rows : Rows) (lp : Prov) : List PV → Option (List PV)
 | [] => some []
 | v :: l => match back m rows lp v with
   | some v' => match backAll m rows lp l with
     | some l' => some (v' :: l')
     | none => none
   | none => none
def Qj (m : List (Nat × Nat)) (rows : Rows) (lp : Prov) : Row → Option Row
 | .arr p t l => match Q39 m rows lp p with
   | some p' => some (.arr p' t l)
   | none => none
 | .vars l => match back.backAll m rows lp l with
   | some l' => some (.vars l')
   | none => none
 | .gone => some .gone
 | .mp it p kt vt bx l tk => match Q39 m rows lp p, tk with
   | some p', none => some (.mp it p' kt vt bx l none)
   | _, _ => none
def Q6p (rows : Rows) (r : Nat) (x : Row) : Option Bool := match rows r, x with
 | some ⟨_, .arr _ t l⟩, .arr _ t' l' => if t = t' then some (decide (l'.length = l.length)) else none
 | some ⟨_, .vars l⟩, .vars l' => if l'.length = l.length then some true else none
 | some ⟨_, .gone⟩, .gone => some true
 | some ⟨_, .arr _ _ _⟩, .gone => some true
 | some ⟨_, .mp _ _ _ _ _ _ _⟩, .gone => some true
 | some _, _ => none
 | none, _ => some true
def Q7p (m : List (Nat × Nat)) (rows : Rows) (lp : Prov) : Nat → List RowS → Option (Bool × List (Nat × RowS))
 | _, [] => some (true, [])
 | i, s :: l => match findN m i with
   | some r => match Qj m rows lp s.row with
     | some x => match Q6p rows r x, Q7p m rows lp (i + 1) l with
       | some b, some (c, u) => some (b && c, (r, ⟨Q2z rows r, x⟩) :: u)
       | _, _ => none
     | none => none
   | none => none
def oneOf : List PV → PV
 | [v] => v
 | vs => .tup vs
def done (key : Nat) (p : Prep) (res : List PV) (rowsOut : List RowS) : Option Out :=
 let m := Q1f (key + 1) 1 p.ids rowsOut.length
 match back.backAll m p.rows p.lent res, Q7p m p.rows p.lent 1 rowsOut with
 | some vs, some (ok, u) => some ⟨ok, some (oneOf vs), u⟩
 | _, _ => none
def Q77 (rows : Rows) : Nat → List (Nat × RowS) → Bool
 | _, [] => true
 | n + 1, _ :: l => Q77 rows n l
 | 0, (r, _) :: l => (match rows r with
   | none => true
   | some _ => false) && Q77 rows 0 l
section
variable {R : Type} (T : TT) (an : Ann) (modes : Nat → List Mode) (n k nt : Nat)
 (callK : Nat → List PV → List RowS → (List PV → List RowS → Oq R) → Oq R)
def putDst (nt : Nat) (env : Env) : Option Nat → Option PV → Env
 | some d, some v => upd env d (if d < nt then some v else none)
 | some d, none => upd env d (if d < nt then some .und else none)
 | none, _ => env
def isFree (rows : Rows) (key : Nat) : Bool := match rows key with
 | none => true
 | some _ => false
def bring {α : Type} (i : Nat) (l : List α) : List α := match l[i]? with
 | some x => x :: l.eraseIdx i
 | none => l
open Classical in
def allOf {R : Type} (m : Nat) (f : Nat → Oq R) : Oq R := if ∃ r, ∀ i, i ≤ m → f i = some r then f 0 else none
def doOp (key : Nat) (o : Oper) (st : St) (K : St → Oq R) : Oq R :=
 match o.op with
 | .call ⟨.value f, as, _⟩ => match look st f, as.toList.mapM (look st) with
   | some (.fn g caps), some vs => match prep key (modes g) st.rows (vs ++ caps) with
     | some p => callK g p.args p.rowsIn fun res rowsOut => match done key p res rowsOut with
       | some out => if Q77 p.rows p.ids.length out.upd then (bif out.ok then K ⟨putDst nt st.env o.dst out.v, updAll p.rows out.upd⟩ else none) else none
       | none => none
     | none => none
   | _, _ => none
 | .next x false => match look st x with
   | some (.ptr r 0) => match st.rows r with
     | some ⟨n, .mp 1 p kt vt bx l none⟩ => allOf l.length fun i => K ⟨putDst nt st.env o.dst (some (.tup [mb (!l.isEmpty)])), upd st.rows r (some ⟨n + 1, .mp 2 p kt vt bx (bring i l) none⟩)⟩
     | _ => none
   | _ => none
 | op => match opOut T key op (look st) st.rows with
   | some out => if isFree st.rows key then (bif out.ok then K ⟨putDst nt st.env o.dst out.v, updAll st.rows out.upd⟩ else none) else none
   | none => none
def doOps (ops : Array Oper) (rid : Nat) : Nat → List Oper → St → (St → Oq R) → Oq R
 | _, [], st, K => K st
 | i, o :: l, st, K => match o.guard with
   | none => doOp T modes nt callK (((rid + 1) * 2048 + i) * 8) o st fun st' => doOps ops rid (i + 1) l st' K
   | some (j, want) => match (ops[j]?).bind (·.dst) with
     | some d => match st.env d with
       | some (.val [] .bool b) => bif b == want
        then doOp T modes nt callK (((rid + 1) * 2048 + i) * 8) o ⟨upd st.env d (some (mb want)), st.rows⟩ fun st' => doOps ops rid (i + 1) l st' K
        else doOps ops rid (i + 1) l ⟨putDst nt (upd st.env d (some (mb (!want)))) o.dst none, st.rows⟩ K
       | some .und => doOps ops rid (i + 1) l ⟨putDst nt st.env o.dst none, st.rows⟩ K
       | _ => none
     | none => none
def ownRow (key r : Nat) : Bool := r / 8 == key / 8
def wrFoot (fp : Foot) (key r : Nat) : Bool := ownRow key r || fp.writes.any fun x => x == r
def inFoot (fp : Foot) (key r : Nat) : Bool := wrFoot fp key r || fp.reads.any fun x => x == r
def Q2o (ops : Array Oper) (o : Oper) : List Nat :=
 (o.op.operands.toList.filterMap fun | .tmp t => some t | _ => none) ++ (match o.guard with
  | some (g, _) => ((ops[g]?).bind (·.dst)).toList
  | none => [])
def cutSt (ops : Array Oper) (fp : Foot) (key : Nat) (o : Oper) (st : St) : St :=
 ⟨fun s => if (Q2o ops o).any (fun x => x == s) then st.env s else none, fun r => if inFoot fp key r then st.rows r else if r == 0 then none else some ⟨0, .gone⟩⟩
def isDst (o : Oper) (s : Nat) : Bool := match o.dst with
 | some d => d == s
 | none => false
def joinSt (fp : Foot) (key : Nat) (o : Oper) (st st' : St) : St :=
 ⟨fun s => if isDst o s then st'.env s else st.env s, fun r => if wrFoot fp key r then st'.rows r else st.rows r⟩
def shutPV (fp : Foot) (key : Nat) (rows : Rows) (v : PV) : Bool := okPV rows v && (idsOf v).all fun r => inFoot fp key r
def Q7h (fp : Foot) (key : Nat) (rows : Rows) : Option RowS → Bool
 | none => true
 | some ⟨_, .gone⟩ => true
 | some ⟨_, .arr p _ _⟩ => okProv rows p
 | some ⟨_, .vars l⟩ => okPV.okAll rows l && (idsOf.idsAll l).all fun r => inFoot fp key r
 | some ⟨_, .mp _ p _ _ _ _ none⟩ => okProv rows p
 | some ⟨_, .mp _ p _ _ _ _ (some (_, r))⟩ => okProv rows p && inFoot fp key r
def Qt4 : Option RowS → Option RowS → Bool
 | none, none => true
 | some s, some s' => s.ver == s'.ver && (match s'.row with
   | .gone => (match s.row with
     | .gone => true
     | _ => false)
   | _ => true)
 | _, _ => false
def Q5l (fp : Foot) (key : Nat) (o : Oper) (st st' : St) : Bool :=
 (match o.dst with
  | some d => (match st'.env d with
    | some v => shutPV fp key st'.rows v
    | none => true)
  | none => true) &&
 (fp.reads.all fun r => wrFoot fp key r || Qt4 (st.rows r) (st'.rows r)) &&
 (fp.writes.all fun r => Q7h fp key st'.rows (st'.rows r)) &&
 ((List.range 8).all fun i => Q7h fp key st'.rows (st'.rows (key / 8 * 8 + i)))
def askPM (ops : Array Oper) (o : Oper) (st : St) : Option Bool := match o.guard with
 | none => some true
 | some (j, want) => match (ops[j]?).bind (·.dst) with
   | some d => match st.env d with
     | some (.val [] .bool b) => some (b == want)
     | some .und => some false
     | _ => none
   | none => none
def Q34 (st : St) : Operand → Option PV
 | .tmp t => match st.env t with
   | some (.ptr r off) => some (.ptr r off)
   | some (.pel r i off) => some (.pel r i off)
   | _ => none
 | _ => none
def Q3b (st : St) : Operand → Option PV
 | .tmp t => match st.env t with
   | some (.ptr r off) => some (.ptr r off)
   | some (.pel r i off) => some (.pel r i off)
   | some (.rw r) => some (.rw r)
   | _ => none
 | _ => none
def ptrOp (o : Oper) (st : St) : Option PV := match o.op with
 | .move x | .assign x => Q3b st x
 | .nilCheck x => Q34 st x
 | .fieldAddr s x f => match opOut T 1 (.fieldAddr s x f) (Q34 st) (fun _ => none) with
   | some out => out.v
   | none => none
 | _ => none
def Q4k (ops : Array Oper) (fp : Foot) (key : Nat) (o : Oper) (st : St) (K : St → Oq R) : Oq R :=
 match ptrOp T o st with
 | some v => K ⟨putDst nt st.env o.dst (some v), st.rows⟩
 | none => doOp T modes nt callK key o (cutSt ops fp key o st) fun st' => if Q5l fp key o (cutSt ops fp key o st) st' then K (joinSt fp key o st st') else none
def drawOp (ops : Array Oper) (fp : Foot) (key : Nat) (o : Oper) (st : St) (K : St → Oq R) : Oq R := match o.guard with
 | none => Q4k T modes nt callK ops fp key o st K
 | some (j, want) => match (ops[j]?).bind (·.dst) with
   | some d => match st.env d with
     | some (.val [] .bool b) => bif b == want
      then Q4k T modes nt callK ops fp key o ⟨upd st.env d (some (mb want)), st.rows⟩ K
      else K ⟨putDst nt (upd st.env d (some (mb (!want)))) o.dst none, st.rows⟩
     | some .und => K ⟨putDst nt st.env o.dst none, st.rows⟩
     | _ => none
   | none => none
def Qbo (ops : Array Oper) (fp : Foot) (key : Nat) (o : Oper) (st : St) (K : St → Oq R) : Oq R := match askPM ops o st with
 | some b => bif b
   then Q4k T modes nt callK ops fp key o st K
   else K ⟨putDst nt st.env o.dst none, st.rows⟩
 | none => none
def footAt (fps : List Foot) (i : Nat) : Foot := match fps[i]? with
 | some f => f
 | none => ⟨[], []⟩
def keyAt (rid i : Nat) : Nat := ((rid + 1) * 2048 + i) * 8
def doDraw (ops : Array Oper) (fps : List Foot) (rid : Nat) : List Nat → St → (St → Oq R) → Oq R
 | [], st, K => K st
 | i :: l, st, K => match ops[i]? with
   | some o => drawOp T modes nt callK ops (footAt fps i) (keyAt rid i) o st fun st' => doDraw ops fps rid l st' K
   | none => none
def depsOf (o : Oper) : List Nat := (o.after.toList.filter fun e => Region.binds .any e).map (·.on)
def ancs (ops : Array Oper) : Nat → List (List Nat)
 | 0 => []
 | n + 1 => ancs ops n ++ [match ops[n]? with
   | some o => depsOf o ++ (depsOf o).flatMap fun e => (ancs ops n).getD e []
   | none => []]
def Q69 (fp : Foot) (key : Nat) (fp' : Foot) (key' : Nat) : Bool :=
 (fp.writes.all fun r => !(inFoot fp' key' r)) && ((fp'.reads ++ fp'.writes).all fun r => !(ownRow key r)) && !(key / 8 == key' / 8)
def Q2x (ops : Array Oper) (x y : Oper) : Bool := match x.dst with
 | some d => !((Q2o ops y).any fun s => s == d) && !(isDst y d)
 | none => true
def Q2e (ops : Array Oper) (fps : List Foot) (rid i j : Nat) : Bool := match ops[i]?, ops[j]? with
 | some x, some y => Q2x ops x y && Q2x ops y x && Q69 (footAt fps i) (keyAt rid i) (footAt fps j) (keyAt rid j) && Q69 (footAt fps j) (keyAt rid j) (footAt fps i) (keyAt rid i)
 | _, _ => false
def drawOk (ops : Array Oper) (fps : List Foot) (rid : Nat) : Bool :=
 (List.range ops.size).all fun j => (match ops[j]? with
  | some o => (depsOf o).all fun e => decide (e < j)
  | none => true) && (List.range j).all fun i => ((ancs ops ops.size).getD j []).any (fun x => x == i) || Q2e ops fps rid i j
def Q1d (st : St) (spec : Option (List (Nat × Mode))) (key : Nat) (K : St → Oq R) : Oq R := match spec with
 | some sp => match norm n key sp st with
   | some st' => K st'
   | none => none
 | none => K st
def iter (rest : St → (St → Oq R) → Oq R) : Nat → (St → (St → Oq R) → Oq R) → St → Oq R
 | 0, _, _ => none
 | m + 1, body, st => body st fun st' => rest st' fun st'' => iter rest m body st''
def Q42 : Code → Nat
 | .region id _ _ => id
 | .seq a _ => Q42 a
 | .block _ b => Q42 b
 | .loop b => Q42 b
 | _ => 0
def Q1h (a b : Code) : Nat := match Q42 a with
 | 0 => Q42 b
 | n + 1 => n + 1
def fiN (a b : Code) (N : St → Oq R) (st : St) : Oq R := Q1d n st (findN an.fis (Q1h a b)) ((Q1h a b + 1) * 16384 + 16240) N
def condX (a b : Code) (X : Nat → St → Oq R) : Nat → St → Oq R := match findN an.ifs (Q1h a b) with
 | some _ => fun j st => Q1d n st (findN an.blocks j) ((j + 1) * 16384 + 16200) (X j)
 | none => X
def atHead (b : Code) (st : St) (K : St → Oq R) : Oq R := Q1d n st (findN an.loops (Q42 b)) ((Q42 b + 1) * 16384 + 16100) K
def leave (id : Nat) (N : St → Oq R) (st : St) : Oq R := Q1d n st (findN an.blocks id) ((id + 1) * 16384 + 16200) N
def outX (id : Nat) (N : St → Oq R) (X : Nat → St → Oq R) : Nat → St → Oq R := fun j st => if j == id then leave an n id N st else Q1d n st (findN an.blocks j) ((j + 1) * 16384 + 16200) (X j)
def exec (Rt : St → Oq R) : Code → St → (St → Oq R) → (Nat → St → Oq R) → Oq R
 | .skip, st, N, _ => N st
 | .region id ops draw, st, N, _ => if draw then (match findN an.draws id with
   | some fps => if drawOk ops fps id then Q1d n st (findN an.norms id) ((id + 1) * 16384 + 16000) fun st' => doDraw T modes nt callK ops fps id (List.range ops.size) st' N else none
   | none => none) else
   Q1d n st (findN an.norms id) ((id + 1) * 16384 + 16000) fun st' => doOps T modes nt callK ops id 0 ops.toList st' N
 | .seq a b, st, N, X => exec Rt a st (fun st' => exec Rt b st' N X) X
 | .cond c a b, st, N, X => Q1d n st (findN an.ifs (Q1h a b)) ((Q1h a b + 1) * 16384 + 16320) fun st => match look st c with
   | some (.val _ .bool x) => bif x then exec Rt a st (fiN an n a b N) (condX an n a b X) else exec Rt b st (fiN an n a b N) (condX an n a b X)
   | _ => none
 | .block id b, st, N, X => Q1d n st (findN an.cuts id) ((id + 1) * 16384 + 16300) fun st' => exec Rt b st' (leave an n id N) (outX an n id N X)
 | .loop b, st, _, X => atHead an n b st fun st' => iter (atHead an n b) k (fun s N' => exec Rt b s N' X) st'
 | .exit id, st, _, X => X id st
 | .ret, st, _, _ => Rt st
 | _, _, _, _ => none
end
def resPV (T : TT) (st : St) : List ResultVar → Option (List PV)
 | [] => some []
 | .tmp t :: l => match look st (.tmp t), resPV T st l with
   | some v, some vs => some (v :: vs)
   | _, _ => none
 | .cell c t :: l => match look st (.tmp c) with
   | some (.ptr r off) => match st.rows r with
     | some ⟨_, .vars x⟩ => match subAt T t x off, resPV T st l with
       | some v, some vs => if okPV st.rows v then some (v :: vs) else none
       | _, _ => none
     | _ => none
   | _ => none
def Qir (rows : Rows) : Nat → List PV
 | 0 => []
 | n + 1 => Qir rows n ++ [match rows (n + 1) with
   | some ⟨_, .vars _⟩ => .ptr (n + 1) 0
   | _ => .nils]
def finish (T : TT) (fn : Func) (an : Ann) (n : Nat) (st : St) : Option (List PV × List RowS) := match resPV T st fn.results.toList with
 | some vs => match Qbj an.results st.rows 999999 (vs ++ Qir st.rows n) with
   | some (vs', rows, _) => match pack false rows n (vs'.take vs.length) with
     | some (ws, rs, _) => some (ws, rs)
     | none => none
   | none => none
 | none => none
def argEnv : Nat → List PV → Env → Env
 | _, [], e => e
 | i, v :: l, e => argEnv (i + 1) l (upd e i (some v))
def ending {R : Type} (T : TT) (fn : Func) (an : Ann) (n : Nat) (K : List PV → List RowS → Oq R) (st : St) : Oq R := match finish T fn an n st with
 | some x => K x.1 x.2
 | none => none
inductive PFn where
 | code (fn : Func) (an : Ann)
 | ext (modes : List Mode) (spec : List PV → List RowS → Option (List PV × List RowS))
def Q0 (F : Nat → Option PFn) (g : Nat) : List Mode := match F g with
 | some (.code _ a) => a.params
 | some (.ext m _) => m
 | none => []
def callC {R : Type} (T : TT) (F : Nat → Option PFn) : Nat → Nat → List PV → List RowS → (List PV → List RowS → Oq R) → Oq R
 | 0, _, _, _, _ => none
 | k + 1, f, args, rows, K => match F f with
   | some (.code fn an) => match fn.body with
     | some c => exec (R := R) T an (Q0 F) rows.length k fn.ntmps (callC T F k) (ending T fn an rows.length K) c ⟨argEnv 0 args (fun _ => none), rowsOf rows⟩ (ending T fn an rows.length K) (fun _ _ => none)
     | none => none
   | some (.ext _ spec) => match spec args rows with
     | some x => K x.1 x.2
     | none => none
   | none => none
end
end Go.Proofs.YtecnlienmpdlaaaGreat.PM

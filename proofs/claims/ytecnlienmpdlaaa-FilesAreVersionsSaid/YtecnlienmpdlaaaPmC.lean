/- The small machine PM: what a call is handed, what it hands back, and the run of code. -/
import Derived.Test.YtecnlienmpdlaaaPmB
namespace Go.Proofs.Ytecnlienmpdlaaa.PM
open Go


noncomputable def findN {β : Type} : List (Nat × β) → Nat → Option β
  | [], _ => none
  | (a, b) :: l, x => if a == x then some b else findN l x

noncomputable def dedup : Prov → Prov
  | [] => []
  | (r, n) :: l => if (dedup l).any (fun q => q.1 == r) then dedup l else (r, n) :: dedup l

/-- Provenance told anew. leave: what is left behind by a call's arguments stays a caller's memory (the list tells what that is). -/
noncomputable def renProv (leave : Option Prov) (m : List (Nat × Nat)) (rows : Rows) : Prov → Prov
  | [] => []
  | (r, n) :: l => match findN m r with
    | some r' => (r', 0) :: renProv leave m rows l
    | none => match rows r with
      | none => if r == 0 then (0, n) :: renProv leave m rows l else renProv leave m rows l
      | some _ => if leave.isSome then (0, 0) :: renProv leave m rows l else renProv leave m rows l

/-- Is all that is left behind told of? -/
noncomputable def covers (leave : Option Prov) (m : List (Nat × Nat)) (p : Prov) : Bool := match leave with
  | none => true
  | some lp => p.all fun q => (findN m q.1).isSome || lp.any fun z => z.1 == q.1

noncomputable def ren (leave : Option Prov) (m : List (Nat × Nat)) (rows : Rows) : PV → Option PV
  | .val p t x => if okProv rows p && covers leave m p then some (.val (dedup (renProv leave m rows p)) t x) else none
  | .nils => some .nils
  | .nilp => some .nilp
  | .lit v => some (.lit v)
  | .und => some .und
  | .rw r => match findN m r with
    | some r' => some (.rw r')
    | none => none
  | .rs r off len => match findN m r with
    | some r' => some (.rs r' off len)
    | none => none
  | .ptr r off => match findN m r with
    | some r' => some (.ptr r' off)
    | none => none
  | .pel r i off => match findN m r with
    | some r' => some (.pel r' i off)
    | none => none
  | .pvl p t l i off => if okProv rows p && covers leave m p then some (.pvl (dedup (renProv leave m rows p)) t l i off) else none
  | .fn f l => match renAll leave m rows l with
    | some l' => some (.fn f l')
    | none => none
  | .agg l => match renAll leave m rows l with
    | some l' => some (.agg l')
    | none => none
  | .tup l => match renAll leave m rows l with
    | some l' => some (.tup l')
    | none => none
where renAll (leave : Option Prov) (m : List (Nat × Nat)) (rows : Rows) : List PV → Option (List PV)
  | [] => some []
  | v :: l => match ren leave m rows v with
    | some v' => match renAll leave m rows l with
      | some l' => some (v' :: l')
      | none => none
    | none => none

noncomputable def renRow (leave : Option Prov) (m : List (Nat × Nat)) (rows : Rows) : Row → Option Row
  | .arr p t l => if okProv rows p && covers leave m p then some (.arr (dedup (renProv leave m rows p)) t l) else none
  | .vars l => match ren.renAll leave m rows l with
    | some l' => some (.vars l')
    | none => none
  | .gone => some .gone
  | .mp it p kt vt bx l tk => if okProv rows p && covers leave m p then (match tk with
    | none => some (.mp it (dedup (renProv leave m rows p)) kt vt bx l none)
    | some (k, r) => match findN m r with
      | some r' => some (.mp it (dedup (renProv leave m rows p)) kt vt bx l (some (k, r')))
      | none => none) else none

noncomputable def renRows (leave : Option Prov) (m : List (Nat × Nat)) (rows : Rows) : List Nat → Option (List RowS)
  | [] => some []
  | r :: l => match rows r with
    | some s => match renRow leave m rows s.row with
      | some x => match renRows leave m rows l with
        | some l' => some (⟨0, x⟩ :: l')
        | none => none
      | none => none
    | none => none

noncomputable def rowIds (rows : Rows) (r : Nat) : List Nat := match rows r with
  | some ⟨_, .vars l⟩ => idsOf.idsAll l
  | some ⟨_, .mp _ _ _ _ _ _ (some (_, r))⟩ => [r]
  | _ => []

noncomputable def reach (rows : Rows) : Nat → List Nat → List Nat → Option (List Nat)
  | 0, _, _ => none
  | _ + 1, [], acc => some acc
  | n + 1, r :: todo, acc => if acc.any (fun x => x == r) then reach rows n todo acc else reach rows n (rowIds rows r ++ todo) (acc ++ [r])

noncomputable def upTo : Nat → List Nat
  | 0 => []
  | n + 1 => upTo n ++ [n + 1]

noncomputable def numbered : Nat → List Nat → List (Nat × Nat)
  | _, [] => []
  | n, r :: l => (r, n) :: numbered (n + 1) l

noncomputable def provsOf : PV → Prov
  | .val p _ _ => p
  | .pvl p _ _ _ _ => p
  | .fn _ l | .agg l | .tup l => provsAll l
  | _ => []
where provsAll : List PV → Prov
  | [] => []
  | v :: l => provsOf v ++ provsAll l
noncomputable def rowProvs (rows : Rows) (r : Nat) : Prov := match rows r with
  | some ⟨_, .arr p _ _⟩ => p
  | some ⟨_, .vars l⟩ => provsOf.provsAll l
  | some ⟨_, .mp _ p _ _ _ _ _⟩ => p
  | _ => []
/-- What a call's arguments leave behind. -/
noncomputable def lentOf (rows : Rows) (ids : List Nat) (vs : List PV) : Prov :=
  dedup ((provsOf.provsAll vs ++ ids.flatMap (rowProvs rows)).filter fun q => !(ids.any fun x => x == q.1))

/-- Values and the rows that they lead to, told anew by small numbers; the first n rows keep theirs. -/
noncomputable def pack (leave : Bool) (rows : Rows) (n : Nat) (vs : List PV) : Option (List PV × List RowS × List Nat) :=
  match reach rows 400 ((upTo n).flatMap (rowIds rows) ++ idsOf.idsAll vs) (upTo n) with
  | some ids => match ren.renAll (if leave then some (lentOf rows ids vs) else none) (numbered 1 ids) rows vs, renRows (if leave then some (lentOf rows ids vs) else none) (numbered 1 ids) rows ids with
    | some vs', some rs => some (vs', rs, ids)
    | _, _ => none
  | none => none

noncomputable def rowAt : List RowS → Nat → Option RowS
  | [], _ => none
  | s :: l, r => if r == 1 then some s else rowAt l (r - 1)
noncomputable def rowsOf (l : List RowS) : Rows := fun r => if r == 0 then none else rowAt l r

/-- How a value is wanted where ways meet, or where it is handed on. -/
inductive Mode where
  | any | own (t : Ty) | trim (t : Ty) | move (t : Ty) | value (t : Ty) | lend (t : Ty) | cells (ms : List Mode) | drop (r : Nat) (m : Mode) | tie (m : Mode) | wide (rs : List Nat) (m : Mode) | ice (rs : List Nat) (m : Mode)

noncomputable def addRow (rows : Rows) (key : Nat) (x : Row) : Option (Rows × Nat) := match rows key with
  | none => some (upd rows key (some ⟨0, x⟩), key + 1)
  | some _ => none

/-- The rows' versions of now. -/
noncomputable def curs (rows : Rows) : List Nat → Option Prov
  | [] => some []
  | r :: rs => match rows r with
    | some ⟨n, .arr _ _ _⟩ => match curs rows rs with
      | some q => some ((r, n) :: q)
      | none => none
    | _ => none
/-- The rows of a provenance, but those that are kept, are written no more. -/
noncomputable def freeze (keep : List Nat) : Rows → Prov → Option Rows
  | rows, [] => some rows
  | rows, (r, _) :: p => if r == 0 || keep.any (fun x => x == r) then freeze keep rows p else match rows r with
    | some ⟨n, .arr _ _ _⟩ => freeze keep (upd rows r (some ⟨n, .gone⟩)) p
    | some ⟨_, .gone⟩ => freeze keep rows p
    | _ => none
noncomputable def iceP (rows : Rows) : List PV → Prov
  | [] => []
  | .val p _ _ :: l => if okProv rows p then p ++ iceP rows l else iceP rows l
  | _ :: l => iceP rows l
noncomputable def stripP (keep : List Nat) : Prov → Prov
  | [] => []
  | (r, n) :: p => if r == 0 || keep.any (fun x => x == r) then (r, n) :: stripP keep p else stripP keep p
noncomputable def stripV (keep : List Nat) (rows : Rows) : PV → PV
  | .val p t x => if okProv rows p then .val (stripP keep p) t x else .val p t x
  | v => v
noncomputable def stripL (keep : List Nat) (rows : Rows) : List PV → List PV
  | [] => []
  | v :: l => stripV keep rows v :: stripL keep rows l
noncomputable def ownL : List PV → List Nat
  | [] => []
  | .rw r :: l => r :: ownL l
  | .rs r _ _ :: l => r :: ownL l
  | _ :: l => ownL l
noncomputable def rowP (rows : Rows) : List Nat → Prov
  | [] => []
  | r :: rs => match rows r with
    | some ⟨_, .arr p _ _⟩ => if okProv rows p then p ++ rowP rows rs else rowP rows rs
    | _ => rowP rows rs
noncomputable def restamps (keep : List Nat) (rows : Rows) : Rows → List Nat → Option Rows
  | cur, [] => some cur
  | cur, r :: rs => match rows r with
    | some ⟨_, .arr p t l⟩ => if okProv rows p then (match cur r with
      | some ⟨n, .arr _ _ _⟩ => restamps keep rows (upd cur r (some ⟨n + 1, .arr (stripP keep p) t l⟩)) rs
      | _ => none) else restamps keep rows cur rs
    | _ => restamps keep rows cur rs
noncomputable def melt (keep : List Nat) (rows : Rows) (l : List PV) : Option Rows := match freeze keep rows (iceP rows l ++ rowP rows (ownL l)) with
  | some rows1 => restamps keep rows rows1 (ownL l)
  | none => none
/-- What a row or a struct holds no longer names rows that are not kept: they are written no more. -/
noncomputable def ices (keep : List Nat) (rows : Rows) : PV → Option (PV × Rows)
  | .ptr r off => match rows r with
    | some ⟨_, .vars l⟩ => match melt (ownL l ++ keep) rows l with
      | some rows1 => match rows1 r with
        | some ⟨n, .vars l0⟩ => if l.length == l0.length then some (.ptr r off, upd rows1 r (some ⟨n + 1, .vars (stripL (ownL l ++ keep) rows l)⟩)) else none
        | _ => none
      | none => none
    | _ => none
  | .agg l => match melt (ownL l ++ keep) rows l with
    | some rows1 => if okPV.okAll rows l then some (.agg (stripL (ownL l ++ keep) rows l), rows1) else none
    | none => none
  | _ => none
noncomputable def coerce : Mode → Rows → Nat → PV → Option (PV × Rows × Nat)
  | .any, rows, key, v => some (v, rows, key)
  | .own t, rows, key, .nils => match addRow rows key (.arr [] t []) with
    | some (rows', k) => some (.rw key, rows', k)
    | none => none
  | .own _, rows, key, .rw r => some (.rw r, rows, key)
  | .own _, _, _, _ => none
  | .trim t, rows, key, .nils => match addRow rows key (.arr [] t []) with
    | some (rows', k) => some (.rw key, rows', k)
    | none => none
  | .trim _, rows, key, .rw r => some (.rw r, rows, key)
  | .trim _, rows, key, .rs r off len => match rows r with
    | some ⟨n, .arr p t l⟩ => match addRow (upd rows r (some ⟨n, .gone⟩)) key (.arr p t ((l.drop off).take len)) with
      | some (rows', k) => some (.rw key, rows', k)
      | none => none
    | _ => none
  | .trim _, _, _, _ => none
  | .move t, rows, key, .nils => match addRow rows key (.arr [] t []) with
    | some (rows', k) => some (.rw key, rows', k)
    | none => none
  | .move _, rows, key, .rw r => match rows r with
    | some ⟨n, .arr p t l⟩ => match addRow (upd rows r (some ⟨n, .gone⟩)) key (.arr p t l) with
      | some (rows', k) => some (.rw key, rows', k)
      | none => none
    | _ => none
  | .move _, rows, key, .rs r off len => match rows r with
    | some ⟨n, .arr p t l⟩ => match addRow (upd rows r (some ⟨n, .gone⟩)) key (.arr p t ((l.drop off).take len)) with
      | some (rows', k) => some (.rw key, rows', k)
      | none => none
    | _ => none
  | .move _, _, _, _ => none
  | .drop r m, rows, key, v => match coerce m rows key v with
    | some (v', rows', k) => match rows' r with
      | some ⟨n, .arr _ _ _⟩ => some (v', upd rows' r (some ⟨n, .gone⟩), k)
      | _ => some (v', rows', k)
    | none => none
  | .tie m, rows, key, v => match coerce m rows key v with
    | some (.rw r, rows', k) => match rows' r with
      | some ⟨n, .arr p t l⟩ => some (.rw r, upd rows' r (some ⟨n + 1, .arr ((0, 0) :: p) t l⟩), k)
      | some ⟨n, .mp it p kt vt bx l tk⟩ => some (.rw r, upd rows' r (some ⟨n + 1, .mp it ((0, 0) :: p) kt vt bx l tk⟩), k)
      | _ => none
    | _ => none
  | .wide rs m, rows, key, v => match coerce m rows key v with
    | some (.val p t x, rows1, k) => if okProv rows1 p then (match freeze rs rows1 p with
      | some rows' => match curs rows' rs with
        | some q => some (.val ((0, 0) :: q) t x, rows', k)
        | none => none
      | none => none) else none
    | _ => none
  | .ice rs m, rows, key, v => match ices rs rows v with
    | some (v1, rows1) => coerce m rows1 key v1
    | none => none
  | .value t, rows, key, v => if okPV rows v then (match toVal rows v with
    | some .nils => some (.val [] (.slice t) [], rows, key)
    | some x => some (x, rows, key)
    | none => none) else none
  | .lend t, rows, key, v => if okPV rows v then (match toVal rows v with
    | some .nils => some (.val [(0, 0)] (.slice t) [], rows, key)
    | some (.val p t' x) => some (.val ((0, 0) :: p) t' x, rows, key)
    | _ => none) else none
  | .cells ms, rows, key, .ptr r off => match rows r with
    | some ⟨_, .vars l⟩ => match coerceL ms rows key l with
      | some (l', rows', k) => match rows' r with
        | some ⟨n, .vars l0⟩ => if l'.length = l0.length then some (.ptr r off, upd rows' r (some ⟨n + 1, .vars l'⟩), k) else none
        | _ => none
      | none => none
    | _ => none
  | .cells ms, rows, key, .agg l => if okPV.okAll rows l then (match coerceL ms rows key l with
    | some (l', rows', k) => some (.agg l', rows', k)
    | none => none) else none
  | .cells _, _, _, _ => none
where coerceL : List Mode → Rows → Nat → List PV → Option (List PV × Rows × Nat)
  | [], rows, key, l => some (l, rows, key)
  | _ :: _, _, _, [] => none
  | m :: ms, rows, key, v :: l => match coerce m rows key v with
    | some (v', rows', k) => match coerceL ms rows' k l with
      | some (l', rows'', k') => some (v' :: l', rows'', k')
      | none => none
    | none => none

noncomputable def coerces : List Mode → Rows → Nat → List PV → Option (List PV × Rows × Nat) := coerce.coerceL

/-- The slots that live on, told anew. -/
noncomputable def takeSlots (st : St) : List (Nat × Mode) → Option (List PV)
  | [] => some []
  | (s, _) :: l => match look st (.tmp s) with
    | some v => match takeSlots st l with
      | some vs => some (v :: vs)
      | none => none
    | none => none
noncomputable def putSlots : List (Nat × Mode) → List PV → Env → Env
  | (s, _) :: l, v :: vs, e => putSlots l vs (upd e s (some v))
  | _, _, e => e

noncomputable def norm (n key : Nat) (spec : List (Nat × Mode)) (st : St) : Option St := match takeSlots st spec with
  | some vs => match coerces (spec.map (·.2)) st.rows key vs with
    | some (vs', rows, _) => match pack false rows n vs' with
      | some (ws, rs, _) => some ⟨putSlots spec ws (fun _ => none), rowsOf rs⟩
      | none => none
    | none => none
  | none => none

/-- The rows that an operation reads, and those that it writes (beside those that it makes). -/
structure Foot where
  reads : List Nat
  writes : List Nat

structure Ann where
  params : List Mode
  results : List Mode
  norms : List (Nat × List (Nat × Mode))
  loops : List (Nat × List (Nat × Mode))
  blocks : List (Nat × List (Nat × Mode))
  cuts : List (Nat × List (Nat × Mode))
  draws : List (Nat × List Foot)
  ifs : List (Nat × List (Nat × Mode))
  fis : List (Nat × List (Nat × Mode))

/-! ### calls -/
structure Prep where
  args : List PV
  rowsIn : List RowS
  ids : List Nat
  rows : Rows
  lent : Prov

noncomputable def prep (key : Nat) (ms : List Mode) (rows : Rows) (args : List PV) : Option Prep := match coerces ms rows key args with
  | some (vs, rows', _) => match pack true rows' 0 vs with
    | some (ws, rs, ids) => some ⟨ws, rs, ids, rows', lentOf rows' ids vs⟩
    | none => none
  | none => none

/-- The way back: the callee's numbers and the caller's. -/
noncomputable def backMap (key : Nat) : Nat → List Nat → Nat → List (Nat × Nat)
  | i, g :: ids, n + 1 => (i, g) :: backMap key (i + 1) ids n
  | i, [], n + 1 => (i, key) :: backMap (key + 1) (i + 1) [] n
  | _, _, 0 => []

noncomputable def backVer (rows : Rows) (r : Nat) : Nat := match rows r with
  | some s => s.ver + 1
  | none => 0

noncomputable def backProv (m : List (Nat × Nat)) (rows : Rows) (lp : Prov) : Prov → Option Prov
  | [] => some []
  | (r, _) :: l => match backProv m rows lp l with
    | some l' => if r == 0 then some (lp ++ l') else match findN m r with
      | some r' => some ((r', backVer rows r') :: l')
      | none => none
    | none => none

noncomputable def back (m : List (Nat × Nat)) (rows : Rows) (lp : Prov) : PV → Option PV
  | .val p t x => match backProv m rows lp p with
    | some p' => some (.val p' t x)
    | none => none
  | .nils => some .nils
  | .nilp => some .nilp
  | .lit v => some (.lit v)
  | .und => none
  | .rw r => match findN m r with
    | some r' => some (.rw r')
    | none => none
  | .rs r off len => match findN m r with
    | some r' => some (.rs r' off len)
    | none => none
  | .ptr r off => match findN m r with
    | some r' => some (.ptr r' off)
    | none => none
  | .pel r i off => match findN m r with
    | some r' => some (.pel r' i off)
    | none => none
  | .pvl _ _ _ _ _ => none
  | .fn f l => match backAll m rows lp l with
    | some l' => some (.fn f l')
    | none => none
  | .agg l => match backAll m rows lp l with
    | some l' => some (.agg l')
    | none => none
  | .tup l => match backAll m rows lp l with
    | some l' => some (.tup l')
    | none => none
where backAll (m : List (Nat × Nat)) (rows : Rows) (lp : Prov) : List PV → Option (List PV)
  | [] => some []
  | v :: l => match back m rows lp v with
    | some v' => match backAll m rows lp l with
      | some l' => some (v' :: l')
      | none => none
    | none => none

noncomputable def backRow (m : List (Nat × Nat)) (rows : Rows) (lp : Prov) : Row → Option Row
  | .arr p t l => match backProv m rows lp p with
    | some p' => some (.arr p' t l)
    | none => none
  | .vars l => match back.backAll m rows lp l with
    | some l' => some (.vars l')
    | none => none
  | .gone => some .gone
  | .mp it p kt vt bx l tk => match backProv m rows lp p, tk with
    | some p', none => some (.mp it p' kt vt bx l none)
    | _, _ => none

/-- Is a row that came back of the length that it had? -/
noncomputable def sameLong (rows : Rows) (r : Nat) (x : Row) : Option Bool := match rows r, x with
  | some ⟨_, .arr _ t l⟩, .arr _ t' l' => if t = t' then some (decide (l'.length = l.length)) else none
  | some ⟨_, .vars l⟩, .vars l' => if l'.length = l.length then some true else none
  | some ⟨_, .gone⟩, .gone => some true
  | some ⟨_, .arr _ _ _⟩, .gone => some true
  | some ⟨_, .mp _ _ _ _ _ _ _⟩, .gone => some true
  | some _, _ => none
  | none, _ => some true

noncomputable def backRows (m : List (Nat × Nat)) (rows : Rows) (lp : Prov) : Nat → List RowS → Option (Bool × List (Nat × RowS))
  | _, [] => some (true, [])
  | i, s :: l => match findN m i with
    | some r => match backRow m rows lp s.row with
      | some x => match sameLong rows r x, backRows m rows lp (i + 1) l with
        | some b, some (c, u) => some (b && c, (r, ⟨backVer rows r, x⟩) :: u)
        | _, _ => none
      | none => none
    | none => none

noncomputable def oneOf : List PV → PV
  | [v] => v
  | vs => .tup vs

noncomputable def done (key : Nat) (p : Prep) (res : List PV) (rowsOut : List RowS) : Option Out :=
  let m := backMap (key + 1) 1 p.ids rowsOut.length
  match back.backAll m p.rows p.lent res, backRows m p.rows p.lent 1 rowsOut with
  | some vs, some (ok, u) => some ⟨ok, some (oneOf vs), u⟩
  | _, _ => none

noncomputable def freeAll (rows : Rows) : Nat → List (Nat × RowS) → Bool
  | _, [] => true
  | n + 1, _ :: l => freeAll rows n l
  | 0, (r, _) :: l => (match rows r with
    | none => true
    | some _ => false) && freeAll rows 0 l

/-! ### code -/
section
variable {R : Type} (T : TT) (an : Ann) (modes : Nat → List Mode) (n k nt : Nat)
  (callK : Nat → List PV → List RowS → (List PV → List RowS → Option R) → Option R)

noncomputable def putDst (nt : Nat) (env : Env) : Option Nat → Option PV → Env
  | some d, some v => upd env d (if d < nt then some v else none)
  | some d, none => upd env d (if d < nt then some .und else none)
  | none, _ => env

noncomputable def isFree (rows : Rows) (key : Nat) : Bool := match rows key with
  | none => true
  | some _ => false

noncomputable def bring {α : Type} (i : Nat) (l : List α) : List α := match l[i]? with
  | some x => x :: l.eraseIdx i
  | none => l
open Classical in
/-- All ways lead to the same. -/
noncomputable def allOf {R : Type} (m : Nat) (f : Nat → Option R) : Option R := if ∃ r, ∀ i, i ≤ m → f i = some r then f 0 else none

noncomputable def doOp (key : Nat) (o : Oper) (st : St) (K : St → Option R) : Option R :=
  match o.op with
  | .call ⟨.value f, as, _⟩ => match look st f, as.toList.mapM (look st) with
    | some (.fn g caps), some vs => match prep key (modes g) st.rows (vs ++ caps) with
      | some p => callK g p.args p.rowsIn fun res rowsOut => match done key p res rowsOut with
        | some out => if freeAll p.rows p.ids.length out.upd then (bif out.ok then K ⟨putDst nt st.env o.dst out.v, updAll p.rows out.upd⟩ else none) else none
        | none => none
      | none => none
    | _, _ => none
  | .next x false => match look st x with
    | some (.ptr r 0) => match st.rows r with
      | some ⟨n, .mp 1 p kt vt bx l none⟩ => allOf l.length fun i => K ⟨putDst nt st.env o.dst (some (.tup [mb (!l.isEmpty)])), upd st.rows r (some ⟨n + 1, .mp 2 p kt vt bx (bring i l) none⟩)⟩
      | _ => none
    | _ => none
  | op => match opOut T key op (look st) st.rows with
    | some out => if isFree st.rows key then (bif out.ok then K ⟨putDst nt st.env o.dst out.v, updAll st.rows out.upd⟩ else none) else none
    | none => none

noncomputable def doOps (ops : Array Oper) (rid : Nat) : Nat → List Oper → St → (St → Option R) → Option R
  | _, [], st, K => K st
  | i, o :: l, st, K => match o.guard with
    | none => doOp T modes nt callK (((rid + 1) * 2048 + i) * 8) o st fun st' => doOps ops rid (i + 1) l st' K
    | some (j, want) => match (ops[j]?).bind (·.dst) with
      | some d => match st.env d with
        | some (.val [] .bool b) => bif b == want
            then doOp T modes nt callK (((rid + 1) * 2048 + i) * 8) o ⟨upd st.env d (some (mb want)), st.rows⟩ fun st' => doOps ops rid (i + 1) l st' K
            else doOps ops rid (i + 1) l ⟨putDst nt (upd st.env d (some (mb (!want)))) o.dst none, st.rows⟩ K
        | some .und => doOps ops rid (i + 1) l ⟨putDst nt st.env o.dst none, st.rows⟩ K
        | _ => none
      | none => none

/-! an operation whose order is open: it is run on the rows of its footprint alone -/
noncomputable def ownRow (key r : Nat) : Bool := r / 8 == key / 8
noncomputable def wrFoot (fp : Foot) (key r : Nat) : Bool := ownRow key r || fp.writes.any fun x => x == r
noncomputable def inFoot (fp : Foot) (key r : Nat) : Bool := wrFoot fp key r || fp.reads.any fun x => x == r
noncomputable def slotsOf (ops : Array Oper) (o : Oper) : List Nat :=
  (o.op.operands.toList.filterMap fun | .tmp t => some t | _ => none) ++ (match o.guard with
    | some (g, _) => ((ops[g]?).bind (·.dst)).toList
    | none => [])
noncomputable def cutSt (ops : Array Oper) (fp : Foot) (key : Nat) (o : Oper) (st : St) : St :=
  ⟨fun s => if (slotsOf ops o).any (fun x => x == s) then st.env s else none, fun r => if inFoot fp key r then st.rows r else if r == 0 then none else some ⟨0, .gone⟩⟩
noncomputable def isDst (o : Oper) (s : Nat) : Bool := match o.dst with
  | some d => d == s
  | none => false
noncomputable def joinSt (fp : Foot) (key : Nat) (o : Oper) (st st' : St) : St :=
  ⟨fun s => if isDst o s then st'.env s else st.env s, fun r => if wrFoot fp key r then st'.rows r else st.rows r⟩
noncomputable def shutPV (fp : Foot) (key : Nat) (rows : Rows) (v : PV) : Bool := okPV rows v && (idsOf v).all fun r => inFoot fp key r
noncomputable def shutRow (fp : Foot) (key : Nat) (rows : Rows) : Option RowS → Bool
  | none => true
  | some ⟨_, .gone⟩ => true
  | some ⟨_, .arr p _ _⟩ => okProv rows p
  | some ⟨_, .vars l⟩ => okPV.okAll rows l && (idsOf.idsAll l).all fun r => inFoot fp key r
  | some ⟨_, .mp _ p _ _ _ _ none⟩ => okProv rows p
  | some ⟨_, .mp _ p _ _ _ _ (some (_, r))⟩ => okProv rows p && inFoot fp key r
noncomputable def unturned : Option RowS → Option RowS → Bool
  | none, none => true
  | some s, some s' => s.ver == s'.ver && (match s'.row with
    | .gone => (match s.row with
      | .gone => true
      | _ => false)
    | _ => true)
  | _, _ => false
noncomputable def localOk (fp : Foot) (key : Nat) (o : Oper) (st st' : St) : Bool :=
  (match o.dst with
    | some d => (match st'.env d with
      | some v => shutPV fp key st'.rows v
      | none => true)
    | none => true) &&
  (fp.reads.all fun r => wrFoot fp key r || unturned (st.rows r) (st'.rows r)) &&
  (fp.writes.all fun r => shutRow fp key st'.rows (st'.rows r)) &&
  ((List.range 8).all fun i => shutRow fp key st'.rows (st'.rows (key / 8 * 8 + i)))

noncomputable def askPM (ops : Array Oper) (o : Oper) (st : St) : Option Bool := match o.guard with
  | none => some true
  | some (j, want) => match (ops[j]?).bind (·.dst) with
    | some d => match st.env d with
      | some (.val [] .bool b) => some (b == want)
      | some .und => some false
      | _ => none
    | none => none

/-- Operations on addresses that ask no memory. -/
noncomputable def ptrLook (st : St) : Operand → Option PV
  | .tmp t => match st.env t with
    | some (.ptr r off) => some (.ptr r off)
    | some (.pel r i off) => some (.pel r i off)
    | _ => none
  | _ => none
noncomputable def ptrLookM (st : St) : Operand → Option PV
  | .tmp t => match st.env t with
    | some (.ptr r off) => some (.ptr r off)
    | some (.pel r i off) => some (.pel r i off)
    | some (.rw r) => some (.rw r)
    | _ => none
  | _ => none
noncomputable def ptrOp (o : Oper) (st : St) : Option PV := match o.op with
  | .move x | .assign x => ptrLookM st x
  | .nilCheck x => ptrLook st x
  | .fieldAddr s x f => match opOut T 1 (.fieldAddr s x f) (ptrLook st) (fun _ => none) with
    | some out => out.v
    | none => none
  | _ => none

noncomputable def drawRun (ops : Array Oper) (fp : Foot) (key : Nat) (o : Oper) (st : St) (K : St → Option R) : Option R :=
  match ptrOp T o st with
  | some v => K ⟨putDst nt st.env o.dst (some v), st.rows⟩
  | none => doOp T modes nt callK key o (cutSt ops fp key o st) fun st' => if localOk fp key o (cutSt ops fp key o st) st' then K (joinSt fp key o st st') else none
noncomputable def drawOp (ops : Array Oper) (fp : Foot) (key : Nat) (o : Oper) (st : St) (K : St → Option R) : Option R := match o.guard with
  | none => drawRun T modes nt callK ops fp key o st K
  | some (j, want) => match (ops[j]?).bind (·.dst) with
    | some d => match st.env d with
      | some (.val [] .bool b) => bif b == want
          then drawRun T modes nt callK ops fp key o ⟨upd st.env d (some (mb want)), st.rows⟩ K
          else K ⟨putDst nt (upd st.env d (some (mb (!want)))) o.dst none, st.rows⟩
      | some .und => K ⟨putDst nt st.env o.dst none, st.rows⟩
      | _ => none
    | none => none
/-- The same, told otherwise. -/
noncomputable def drawOp0 (ops : Array Oper) (fp : Foot) (key : Nat) (o : Oper) (st : St) (K : St → Option R) : Option R := match askPM ops o st with
  | some b => bif b
    then drawRun T modes nt callK ops fp key o st K
    else K ⟨putDst nt st.env o.dst none, st.rows⟩
  | none => none

noncomputable def footAt (fps : List Foot) (i : Nat) : Foot := match fps[i]? with
  | some f => f
  | none => ⟨[], []⟩
noncomputable def keyAt (rid i : Nat) : Nat := ((rid + 1) * 2048 + i) * 8

noncomputable def doDraw (ops : Array Oper) (fps : List Foot) (rid : Nat) : List Nat → St → (St → Option R) → Option R
  | [], st, K => K st
  | i :: l, st, K => match ops[i]? with
    | some o => drawOp T modes nt callK ops (footAt fps i) (keyAt rid i) o st fun st' => doDraw ops fps rid l st' K
    | none => none

/-- What comes before an operation in every order. -/
noncomputable def depsOf (o : Oper) : List Nat := (o.after.toList.filter fun e => Region.binds .any e).map (·.on)
noncomputable def ancs (ops : Array Oper) : Nat → List (List Nat)
  | 0 => []
  | n + 1 => ancs ops n ++ [match ops[n]? with
    | some o => depsOf o ++ (depsOf o).flatMap fun e => (ancs ops n).getD e []
    | none => []]
noncomputable def awayFrom (fp : Foot) (key : Nat) (fp' : Foot) (key' : Nat) : Bool :=
  (fp.writes.all fun r => !(inFoot fp' key' r)) && ((fp'.reads ++ fp'.writes).all fun r => !(ownRow key r)) && !(key / 8 == key' / 8)
noncomputable def slotsApart (ops : Array Oper) (x y : Oper) : Bool := match x.dst with
  | some d => !((slotsOf ops y).any fun s => s == d) && !(isDst y d)
  | none => true
noncomputable def apartOps (ops : Array Oper) (fps : List Foot) (rid i j : Nat) : Bool := match ops[i]?, ops[j]? with
  | some x, some y => slotsApart ops x y && slotsApart ops y x && awayFrom (footAt fps i) (keyAt rid i) (footAt fps j) (keyAt rid j) && awayFrom (footAt fps j) (keyAt rid j) (footAt fps i) (keyAt rid i)
  | _, _ => false
noncomputable def drawOk (ops : Array Oper) (fps : List Foot) (rid : Nat) : Bool :=
  (List.range ops.size).all fun j => (match ops[j]? with
    | some o => (depsOf o).all fun e => decide (e < j)
    | none => true) && (List.range j).all fun i => ((ancs ops ops.size).getD j []).any (fun x => x == i) || apartOps ops fps rid i j

noncomputable def entered (st : St) (spec : Option (List (Nat × Mode))) (key : Nat) (K : St → Option R) : Option R := match spec with
  | some sp => match norm n key sp st with
    | some st' => K st'
    | none => none
  | none => K st

/-- The rounds of a loop; rest: what is done between two rounds. -/
noncomputable def iter (rest : St → (St → Option R) → Option R) : Nat → (St → (St → Option R) → Option R) → St → Option R
  | 0, _, _ => none
  | m + 1, body, st => body st fun st' => rest st' fun st'' => iter rest m body st''

noncomputable def firstReg : Code → Nat
  | .region id _ _ => id
  | .seq a _ => firstReg a
  | .block _ b => firstReg b
  | .loop b => firstReg b
  | _ => 0

/-- The number of a branching: that of its first region. -/
noncomputable def condKey (a b : Code) : Nat := match firstReg a with
  | 0 => firstReg b
  | n + 1 => n + 1
/-- What both arms of a branching go on with. -/
noncomputable def fiN (a b : Code) (N : St → Option R) (st : St) : Option R := entered n st (findN an.fis (condKey a b)) ((condKey a b + 1) * 16384 + 16240) N

/-- The exits out of a branching that is cut come in the shape that their aim asks for. -/
noncomputable def condX (a b : Code) (X : Nat → St → Option R) : Nat → St → Option R := match findN an.ifs (condKey a b) with
  | some _ => fun j st => entered n st (findN an.blocks j) ((j + 1) * 16384 + 16200) (X j)
  | none => X

noncomputable def atHead (b : Code) (st : St) (K : St → Option R) : Option R := entered n st (findN an.loops (firstReg b)) ((firstReg b + 1) * 16384 + 16100) K

/-- What an exit from a block, or its end, goes on with. -/
noncomputable def leave (id : Nat) (N : St → Option R) (st : St) : Option R := entered n st (findN an.blocks id) ((id + 1) * 16384 + 16200) N
noncomputable def outX (id : Nat) (N : St → Option R) (X : Nat → St → Option R) : Nat → St → Option R := fun j st => if j == id then leave an n id N st else entered n st (findN an.blocks j) ((j + 1) * 16384 + 16200) (X j)

noncomputable def exec (Rt : St → Option R) : Code → St → (St → Option R) → (Nat → St → Option R) → Option R
  | .skip, st, N, _ => N st
  | .region id ops draw, st, N, _ => if draw then (match findN an.draws id with
      | some fps => if drawOk ops fps id then entered n st (findN an.norms id) ((id + 1) * 16384 + 16000) fun st' => doDraw T modes nt callK ops fps id (List.range ops.size) st' N else none
      | none => none) else
      entered n st (findN an.norms id) ((id + 1) * 16384 + 16000) fun st' => doOps T modes nt callK ops id 0 ops.toList st' N
  | .seq a b, st, N, X => exec Rt a st (fun st' => exec Rt b st' N X) X
  | .cond c a b, st, N, X => entered n st (findN an.ifs (condKey a b)) ((condKey a b + 1) * 16384 + 16320) fun st => match look st c with
    | some (.val _ .bool x) => bif x then exec Rt a st (fiN an n a b N) (condX an n a b X) else exec Rt b st (fiN an n a b N) (condX an n a b X)
    | _ => none
  | .block id b, st, N, X => entered n st (findN an.cuts id) ((id + 1) * 16384 + 16300) fun st' => exec Rt b st' (leave an n id N) (outX an n id N X)
  | .loop b, st, _, X => atHead an n b st fun st' => iter (atHead an n b) k (fun s N' => exec Rt b s N' X) st'
  | .exit id, st, _, X => X id st
  | .ret, st, _, _ => Rt st
  | _, _, _, _ => none
end

noncomputable def resPV (T : TT) (st : St) : List ResultVar → Option (List PV)
  | [] => some []
  | .tmp t :: l => match look st (.tmp t), resPV T st l with
    | some v, some vs => some (v :: vs)
    | _, _ => none
  | .cell c t :: l => match look st (.tmp c) with
    | some (.ptr r off) => match st.rows r with
      | some ⟨_, .vars x⟩ => match subAt T t x off, resPV T st l with
        | some v, some vs => if okPV st.rows v then some (v :: vs) else none
        | _, _ => none
      | _ => none
    | _ => none

/-- The rows that were given, as addresses. -/
noncomputable def givenPV (rows : Rows) : Nat → List PV
  | 0 => []
  | n + 1 => givenPV rows n ++ [match rows (n + 1) with
    | some ⟨_, .vars _⟩ => .ptr (n + 1) 0
    | _ => .nils]

noncomputable def finish (T : TT) (fn : Func) (an : Ann) (n : Nat) (st : St) : Option (List PV × List RowS) := match resPV T st fn.results.toList with
  | some vs => match coerces an.results st.rows 999999 (vs ++ givenPV st.rows n) with
    | some (vs', rows, _) => match pack false rows n (vs'.take vs.length) with
      | some (ws, rs, _) => some (ws, rs)
      | none => none
    | none => none
  | none => none

noncomputable def argEnv : Nat → List PV → Env → Env
  | _, [], e => e
  | i, v :: l, e => argEnv (i + 1) l (upd e i (some v))

noncomputable def ending {R : Type} (T : TT) (fn : Func) (an : Ann) (n : Nat) (K : List PV → List RowS → Option R) (st : St) : Option R := match finish T fn an n st with
  | some x => K x.1 x.2
  | none => none

/-- A function: code that is run, or an answer that is known. -/
inductive PFn where
  | code (fn : Func) (an : Ann)
  | ext (modes : List Mode) (spec : List PV → List RowS → Option (List PV × List RowS))

noncomputable def modesOf (F : Nat → Option PFn) (g : Nat) : List Mode := match F g with
  | some (.code _ a) => a.params
  | some (.ext m _) => m
  | none => []

noncomputable def callC {R : Type} (T : TT) (F : Nat → Option PFn) : Nat → Nat → List PV → List RowS → (List PV → List RowS → Option R) → Option R
  | 0, _, _, _, _ => none
  | k + 1, f, args, rows, K => match F f with
    | some (.code fn an) => match fn.body with
      | some c => exec (R := R) T an (modesOf F) rows.length k fn.ntmps (callC T F k) (ending T fn an rows.length K) c ⟨argEnv 0 args (fun _ => none), rowsOf rows⟩ (ending T fn an rows.length K) (fun _ _ => none)
      | none => none
    | some (.ext _ spec) => match spec args rows with
      | some x => K x.1 x.2
      | none => none
    | none => none

end Go.Proofs.Ytecnlienmpdlaaa.PM

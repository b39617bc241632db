import Derived.Test.YtecnlienmpdlaaaGreatPmA
namespace Go.Proofs.YtecnlienmpdlaaaGreat.PM
open Go
noncomputable section
def LIM (bytes : Nat) : Nat := 140737488355328 / bytes
def setCells (l : List PV) (off : Nat) (xs : List PV) : List PV := l.take off ++ xs ++ l.drop (off + xs.length)
def subAt (T : TT) (t : Nat) (l : List PV) (off : Nat) : Option PV := match T.at t with
 | some i => match aggOf i.d with
   | some g => if off + i.size ≤ l.length then Qlj g ((l.drop off).take i.size) else none
   | none => none
 | none => none
def bytesOf (s : BA) : LI := s.data.toList.map fun b => (b.toNat : Int)
def strOf (l : LI) : BA := ⟨(l.map fun n => UInt8.ofNat n.toNat).toArray⟩
def Q20 (lo hi : Option Int) (n : Nat) : Bool := match lo, hi with
 | none, none => true
 | some a, none => decide (0 ≤ a) && decide (a ≤ (n : Int))
 | none, some b => decide (0 ≤ b) && decide (b ≤ (n : Int))
 | some a, some b => decide (0 ≤ a) && (decide (a ≤ b) && decide (b ≤ (n : Int)))
def cutL {α : Type} (lo hi : Option Int) (l : List α) : List α := match lo, hi with
 | none, none => l
 | some a, none => l.drop a.toNat
 | none, some b => l.take b.toNat
 | some a, some b => (l.take b.toNat).drop a.toNat
def loN (lo : Option Int) : Nat := match lo with
 | none => 0
 | some a => a.toNat
def hiN (hi : Option Int) (n : Nat) : Nat := match hi with
 | none => n
 | some b => b.toNat
def intOf? : PV → Option Int
 | .val _ (.int _) n => some n
 | _ => none
def optInt (ρ : Operand → Option PV) : Option Operand → Option (Option Int)
 | none => some none
 | some x => match ρ x with
   | some v => match intOf? v with
     | some n => some (some n)
     | none => none
   | none => none
def added0 (rows : Rows) (ty : Ty) (v : PV) : Option (Prov × List ty.D) := match toVal rows v with
 | some .nils => some ([], [])
 | some (.val p t x) => if h : t = .slice ty then some (p, show (Ty.slice ty).D from h ▸ x) else match ty, t, x with
   | .int .u8, .str, s => some ([], bytesOf s)
   | _, _, _ => none
 | _ => none
def added (rows : Rows) (ty : Ty) (v : PV) : Option (Prov × List ty.D) := match added0 rows ty v with
 | some (p, y) => some (flatP ty p, y)
 | none => none
def Q38 (rows : Rows) (key bytes : Nat) (ty : Ty) (base : PV) (p2 : Prov) (y : List ty.D) : Option Out := match base with
 | .nils => some ⟨decide (y.length ≤ LIM bytes), some (.rw key), [(key, ⟨0, .arr p2 ty y⟩)]⟩
 | .rw r => match rows r with
   | some ⟨n, .arr p t l⟩ => if h : t = ty then
    (if okProv rows p then
     let x : List ty.D := h ▸ l
     some ⟨decide (x.length + y.length ≤ LIM bytes), some (.rw key), [(r, ⟨n, .gone⟩), (key, ⟨0, .arr (p ++ p2) ty (x ++ y)⟩)]⟩
    else none) else none
   | _ => none
 | .rs r off len => match rows r with
   | some ⟨n, .arr p t l⟩ => if h : t = ty then
    (if okProv rows p then
     let x : List ty.D := h ▸ ((l.drop off).take len)
     some ⟨decide (x.length + y.length ≤ LIM bytes), some (.rw key), [(r, ⟨n, .gone⟩), (key, ⟨0, .arr (p ++ p2) ty (x ++ y)⟩)]⟩
    else none) else none
   | _ => none
 | _ => none
def splice {α : Type} (l : List α) (at_ : Nat) (xs : List α) : List α := l.take at_ ++ xs ++ l.drop (at_ + xs.length)
def copyIn (rows : Rows) (ty : Ty) (r off len : Nat) (src : PV) : Option Out := match rows r with
 | some ⟨n, .arr p t l⟩ => if h : t = ty then (match added rows ty src with
   | some (p2, y) => some ⟨true, some (mi .i64 ((min y.length len : Nat) : Int)), [(r, ⟨n + 1, .arr (p ++ p2) ty (splice (show List ty.D from h ▸ l) off (y.take (min y.length len)))⟩)]⟩
   | none => none) else none
 | _ => none
def copyTo (rows : Rows) (ty : Ty) (dst : PV) (src : PV) : Option Out :=
 match dst with
 | .rw r => match rows r with
   | some ⟨_, .arr _ _ l⟩ => copyIn rows ty r 0 l.length src
   | _ => none
 | .rs r off len => copyIn rows ty r off len src
 | _ => none
def lenOf (rows : Rows) (d : TD) (v : PV) : Option Int := match d, v with
 | .str, .val _ .str s => some (s.size : Int)
 | .slice _, .nils => some 0
 | .slice _, .val _ (.slice _) l => some (l.length : Int)
 | .slice _, .rw r => match rows r with
   | some ⟨_, .arr _ _ l⟩ => some (l.length : Int)
   | _ => none
 | .slice _, .rs r _ len => match rows r with
   | some ⟨_, .arr _ _ _⟩ => some (len : Int)
   | _ => none
 | .map _ _, .rw r => match rows r with
   | some ⟨_, .mp 0 _ _ _ _ l none⟩ => some (l.length : Int)
   | _ => none
 | _, _ => none
def Q89 {α : Type} : List (Nat × α) → List α → List α
 | [], l => l
 | (i, x) :: ps, l => Q89 ps (l.set i x)
def Qcw (rows : Rows) (ty : Ty) (ρ : Operand → Option PV) : List (Nat × Operand) → Option (Prov × List (Nat × ty.D))
 | [] => some ([], [])
 | (i, x) :: ps => match ρ x with
   | some v => match cells v with
     | some vs => match toVals rows vs with
       | some cs => match Q14 ty cs with
         | some (y, []) => match Qcw rows ty ρ ps with
           | some (p, l) => some (cs.flatMap provOf ++ p, (i, y) :: l)
           | none => none
         | _ => none
       | none => none
     | none => none
   | none => none
def Q6b (T : TT) (fs : List (Nat × Nat)) (ρ : Operand → Option PV) : List (Nat × Operand) → List PV → Option (List PV)
 | [], l => some l
 | (i, x) :: ps, l => match fs[i]?, ρ x with
   | some (t, off), some v => match T.at t, cells v with
     | some ti, some vs => if vs.length = ti.size ∧ off + ti.size ≤ l.length then Q6b T fs ρ ps (setCells l off vs) else none
     | _, _ => none
   | _, _ => none
def elemTy (T : TT) (t : Nat) : Option (Nat × TI × Ty) := match T.at t with
 | some ⟨.slice e, _, _, _, _⟩ => match T.at e with
   | some i => match i.ty with
     | some ty => some (e, i, ty)
     | none => none
   | none => none
 | _ => none
def Q1w (T : TT) (key : Nat) (b : Builtin) (ts : List Nat) (vs : List PV) (rows : Rows) : Option Out := match b, ts, vs with
 | .len, t :: _, [v] => match T.at t with
   | some i => match lenOf rows i.d v with
     | some n => one (mi .i64 n)
     | none => none
   | none => none
 | .append, t :: t2 :: _, [s, x] => match elemTy T t with
   | some (_, i, ty) => match T.at t2 with
     | some ⟨.int _, _, _, _, _⟩ => match x with
       | .val _ (.int .i64) n => match Q38 rows key i.bytes ty s [] (List.replicate n.toNat ty.zero) with
         | some o => some ⟨decide (0 ≤ n) && o.ok, o.v, o.upd⟩
         | none => none
       | _ => none
     | some ⟨.str, _, _, _, _⟩ | some ⟨.slice _, _, _, _, _⟩ => match added rows ty x with
       | some (p2, y) => Q38 rows key i.bytes ty s p2 y
       | none => none
     | _ => none
   | none => none
 | .cap, t :: _, [.nils] => match T.at t with
   | some ⟨.slice _, _, _, _, _⟩ => one (mi .i64 0)
   | _ => none
 | .copy, t :: _, [d, s] => match elemTy T t with
   | some (_, _, ty) => copyTo rows ty d s
   | none => none
 | .clear, t :: _, [d] => match elemTy T t with
   | some (_, _, ty) => (match d with
     | .nils => one (.tup [])
     | .rw r => (match rows r with
       | some ⟨n, .arr p t' l⟩ => if t' = ty then some ⟨true, some (.tup []), [(r, ⟨n + 1, .arr p ty (List.replicate l.length ty.zero)⟩)]⟩ else none
       | _ => none)
     | .rs r off len => (match rows r with
       | some ⟨n, .arr p t' l⟩ => if h : t' = ty then some ⟨true, some (.tup []), [(r, ⟨n + 1, .arr p ty (splice (show List ty.D from h ▸ l) off (List.replicate len ty.zero))⟩)]⟩ else none
       | _ => none)
     | _ => none)
   | none => none
 | .min, _, [.val _ (.int k) a, .val _ (.int k') b] => if k = k' then one (mi k (if b < a then b else a)) else none
 | .max, _, [.val _ (.int k) a, .val _ (.int k') b] => if k = k' then one (mi k (if a < b then b else a)) else none
 | _, _, _ => none
def isAddr (rows : Rows) : PV → Bool
 | .ptr _ _ => true
 | .pel _ _ _ => true
 | .pvl _ _ _ _ _ => true
 | _ => false
def keyTy : Ty → Bool
 | .int _ | .bool | .str => true
 | .prod (.int _) (.prod .str .unit) => true
 | _ => false
def oneTy : Ty → Bool
 | .int _ | .bool | .str | .slice _ => true
 | _ => false
def dTy : TD → Ty → Bool
 | .int k, .int k' => decide (k = k')
 | .bool, .bool => true
 | .str, .str => true
 | .slice _, .slice _ => true
 | .struct _, .prod _ _ => true
 | _, _ => false
def mapTys (T : TT) (t : Nat) : Option (Ty × Ty × Bool) := match T.at t with
 | some ⟨.map k e, _, _, _, _⟩ => match T.at k, T.at e with
   | some ⟨kd, _, _, _, some kt⟩, some ⟨.ptr s, _, _, _, none⟩ => match T.at s with
     | some ⟨.struct fs, _, _, _, some vt⟩ => if keyTy kt && dTy kd kt && dTy (.struct fs) vt then some (kt, vt, true) else none
     | _ => none
   | some ⟨kd, _, _, _, some kt⟩, some ⟨vd, _, _, _, some vt⟩ => if keyTy kt && dTy kd kt && dTy vd vt && oneTy vt then some (kt, vt, false) else none
   | _, _ => none
 | _ => none
def isProd : Ty → Bool
 | .prod _ _ => true
 | _ => false
def keyOf (kt : Ty) (v : PV) : Option kt.D := match v with
 | .agg l => if isProd kt then (match Q14 kt l with
   | some (k, []) => some k
   | _ => none) else none
 | v => if isProd kt then none else leafOf kt v
def mget (kt : Ty) {β : Type} (k : kt.D) (l : List (kt.D × β)) : Option β := (l.find? fun q => kt.beq k q.1).map (·.2)
def mdel (kt : Ty) {β : Type} (k : kt.D) (l : List (kt.D × β)) : List (kt.D × β) := l.filter fun q => !(kt.beq k q.1)
def isTk (kt : Ty) (k : kt.D) (tk : Option (kt.D × Nat)) : Bool := match tk with
 | none => true
 | some q => kt.beq k q.1
def Q1ct (key r n : Nat) (p : Prov) (kt : Ty) (k : kt.D) : (vt : Ty) → List (kt.D × vt.D) → Bool → Option Out
 | .slice t, l, false => some ⟨true, some (.rw key), [(r, ⟨n + 1, .mp 0 p kt (.slice t) false (mdel kt k l) (some (k, key))⟩), (key, ⟨0, .arr p t ((mget kt k l).getD [])⟩)]⟩
 | .slice _, _, true => none
 | vt, l, false => one (.val [] vt ((mget kt k l).getD vt.zero))
 | vt, l, true => one (.tup [.val [] vt ((mget kt k l).getD vt.zero), mb (mget kt k l).isSome])
def updOut (rows : Rows) (r n : Nat) (p : Prov) (kt : Ty) (k : kt.D) (tk : Option (kt.D × Nat)) (x : PV) : (vt : Ty) → List (kt.D × vt.D) → Option Out
 | .slice t, l => match x with
   | .rw r2 => match rows r2 with
     | some ⟨n2, .arr p2 t2 l2⟩ => if h : t2 = t then some ⟨isTk kt k tk, none, [(r2, ⟨n2, .gone⟩), (r, ⟨n + 1, .mp 0 (p ++ p2) kt (.slice t) false (mdel kt k l ++ [(k, show List t.D from h ▸ l2)]) none⟩)]⟩ else none
     | _ => none
   | _ => none
 | vt, l => match tk, leafOf vt x with
   | none, some v => some ⟨true, none, [(r, ⟨n + 1, .mp 0 p kt vt false (mdel kt k l ++ [(k, v)]) none⟩)]⟩
   | _, _ => none
def Qqw (key r n : Nat) (p : Prov) (kt : Ty) : (vt : Ty) → List (kt.D × vt.D) → Option Out
 | .slice t, l => some ⟨!l.isEmpty, some (.tup [.val [] kt ((l.head?.map (·.1)).getD kt.zero), .rw key]), [(r, ⟨n + 1, .mp 1 p kt (.slice t) false l.tail none⟩), (key, ⟨0, .arr p t ((l.head?.map (·.2)).getD [])⟩)]⟩
 | vt, l => some ⟨!l.isEmpty, some (.tup [.val [] kt ((l.head?.map (·.1)).getD kt.zero), .val [] vt ((l.head?.map (·.2)).getD vt.zero)]), [(r, ⟨n + 1, .mp 1 p kt vt false l.tail none⟩)]⟩
def opOut (T : TT) (key : Nat) (o : Op) (ρ : Operand → Option PV) (rows : Rows) : Option Out := match o with
 | .move x | .assign x => match ρ x with
   | some v => one v
   | none => none
 | .pick c a b => match ρ c with
   | some (.val _ .bool x) => match ρ a, ρ b with
     | some (.val p t y), some (.val p' t' y') => if h : t' = t then one (.val (p ++ p') t (bif x then y else h ▸ y')) else none
     | some v, some .und => oneIf x v
     | some .und, some v => oneIf (!x) v
     | some v, none => oneIf x v
     | none, some v => oneIf (!x) v
     | _, _ => none
   | _ => none
 | .alloc t => match T.at t with
   | some i => if i.zero.all (·.oneCell') then some ⟨true, some (.ptr key 0), [(key, ⟨0, .vars (i.zero.map Q3v)⟩)]⟩ else none
   | none => none
 | .box t x => match T.at t, ρ x with
   | some i, some v => match cells v with
     | some vs => if vs.length = i.size then some ⟨true, some (.ptr key 0), [(key, ⟨0, .vars vs⟩)]⟩ else none
     | none => none
   | _, _ => none
 | .build t ps => match T.at t with
   | some ⟨.struct fs, _, _, z, _⟩ => if fs.all (fun f => (T.at f.1).isSome) && z.all (·.oneCell') then (match Q6b T fs ρ ps.toList (z.map Q3v) with
     | some l => one (.agg l)
     | none => none) else none
   | _ => none
 | .buildSlice t n ps => match elemTy T t with
   | some (_, _, ty) => if !(ps.toList.all (fun q => decide (q.1 < n)) && (decide (n * ty.size ≤ 16777216) && decide (n ≤ 16777216))) then none else match Qcw rows ty ρ ps.toList with
     | some (p, l) => some ⟨true, some (.rw key), [(key, ⟨0, .arr p ty (Q89 l (List.replicate n ty.zero))⟩)]⟩
     | none => none
   | none => none
 | .load t a => match ρ a with
   | some (.ptr r off) => match rows r with
     | some ⟨_, .vars l⟩ => match subAt T t l off with
       | some v => one v
       | none => none
     | _ => none
   | some (.pel r i off) => match rows r with
     | some ⟨_, .arr p ty l⟩ => if okProv rows p then (match subAt T t (Q1i p ty (l.getD i ty.zero)) off with
       | some v => one v
       | none => none) else none
     | _ => none
   | some (.pvl p ty l i off) => match subAt T t (Q1i p ty (l.getD i ty.zero)) off with
     | some v => one v
     | none => none
   | _ => none
 | .store t a x => match ρ a, ρ x, T.at t with
   | some (.ptr r off), some v, some i => match rows r, cells v with
     | some ⟨n, .vars l⟩, some vs => if vs.length = i.size ∧ off + i.size ≤ l.length then some ⟨true, none, [(r, ⟨n + 1, .vars (setCells l off vs)⟩)]⟩ else none
     | _, _ => none
   | some (.pel r j off), some v, some i => match rows r, cells v with
     | some ⟨n, .arr p ty l⟩, some vs => match toVals rows vs with
       | some cs => if cs.length = i.size ∧ off + i.size ≤ ty.size ∧ okProv rows p = true then match Q14 ty (setCells (Q1i p ty (l.getD j ty.zero)) off cs) with
        | some (y, []) => some ⟨true, none, [(r, ⟨n + 1, .arr (p ++ cs.flatMap provOf) ty (l.set j y)⟩)]⟩
        | _ => none
        else none
       | none => none
     | _, _ => none
   | _, _, _ => none
 | .nilCheck x => match ρ x with
   | some v => if isAddr rows v then one v else none
   | none => none
 | .binOp op xt x y _ => match ρ x, ρ y with
   | some a, some b => binop T xt op a b
   | _, _ => none
 | .unOp op _ x => match op, ρ x with
   | .neg, some (.val _ (.int k) n) => one (mi k (k.wrap (0 - n)))
   | .xor, some (.val _ (.int k) n) => one (mi k (bits .xor k (if k.signed then -1 else k.max) n))
   | .not, some (.val _ .bool b) => one (mb (!b))
   | _, _ => none
 | .convert s d x => match T.at s, T.at d, ρ x with
   | some _, some ⟨.int k, _, _, _, _⟩, some (.val _ (.int _) n) => one (mi k (k.wrap n))
   | some ⟨.str, _, _, _, _⟩, some ⟨.str, _, _, _, _⟩, some (.val p .str a) => one (.val p .str a)
   | some ⟨.slice e, _, _, _, _⟩, some ⟨.str, _, _, _, _⟩, some v => match T.at e with
     | some ⟨.int .u8, _, _, _, _⟩ => match toVal rows v with
       | some (.val _ (.slice (.int .u8)) l) => one (.val [] .str (strOf l))
       | some .nils => one (.val [] .str ⟨#[]⟩)
       | _ => none
     | _ => none
   | some ⟨.str, _, _, _, _⟩, some ⟨.slice e, _, _, _, _⟩, some (.val _ .str a) => match T.at e with
     | some ⟨.int .u8, _, _, _, _⟩ => some ⟨decide (a.size ≤ 140737488355328), some (.rw key), [(key, ⟨0, .arr [] (.int .u8) (bytesOf a)⟩)]⟩
     | _ => none
   | some ⟨.slice _, _, _, _, _⟩, some ⟨.slice e, _, _, _, _⟩, some (.rw r) => match T.at e, rows r with
     | some ⟨.int .u8, _, _, _, _⟩, some ⟨n, .arr p t l⟩ => if s = d ∧ t = .int .u8 then some ⟨decide (0 < l.length), some (.rw r), [(r, ⟨n + 1, .arr p t l⟩)]⟩ else none
     | _, _ => none
   | _, _, _ => none
 | .slice st x lo hi none => match ρ x, optInt ρ lo, optInt ρ hi with
   | some (.val p .str s), some a, some b => match T.at st with
     | some ⟨.str, _, _, _, _⟩ => oneIf (Q20 a b s.size) (.val p .str (s.extract (loN a) (hiN b s.size)))
     | _ => none
   | some v, some a, some b => match elemTy T st with
     | some (_, _, ty) => match v with
       | .nils => oneIf (Q20 a b 0) .nils
       | .val p (.slice t) l => if t = ty then oneIf (Q20 a b l.length) (.val p (.slice t) (cutL a b l)) else none
       | .rw r => match rows r with
         | some ⟨_, .arr _ t l⟩ => if t = ty then oneIf (Q20 a b l.length) (.rs r (loN a) (hiN b l.length - loN a)) else none
         | _ => none
       | .rs r off len => match rows r with
         | some ⟨_, .arr _ t _⟩ => if t = ty then oneIf (Q20 a b len) (.rs r (off + loN a) (hiN b len - loN a)) else none
         | _ => none
       | _ => none
     | none => none
   | _, _, _ => none
 | .fieldAddr s x f => match T.at s, ρ x with
   | some ⟨.struct fs, _, _, _, _⟩, some v => match fs[f]? with
     | some (t, o) => match T.at t with
       | some i => if i.size = 0 then none else if isAddr rows v then (match v with
         | .ptr r off => one (.ptr r (off + o))
         | .pel r i off => one (.pel r i (off + o))
         | .pvl p t l i off => one (.pvl p t l i (off + o))
         | _ => none) else none
       | none => none
     | none => none
   | _, _ => none
 | .field s x f => match T.at s, ρ x with
   | some ⟨.struct fs, _, _, _, _⟩, some (.agg l) => match fs[f]? with
     | some (t, o) => match subAt T t l o with
       | some v => one v
       | none => none
     | none => none
   | _, _ => none
 | .indexAddr st x ix => match elemTy T st with
   | some (_, _, ty) => match ρ x, ρ ix with
     | some (.val p (.slice t) l), some (.val _ (.int _) i) => if t = ty then oneIf (decide (0 ≤ i) && decide (i < (l.length : Int))) (.pvl p t l i.toNat 0) else none
     | some (.rw r), some (.val _ (.int _) i) => match rows r with
       | some ⟨_, .arr _ t l⟩ => if t = ty then oneIf (decide (0 ≤ i) && decide (i < (l.length : Int))) (.pel r i.toNat 0) else none
       | _ => none
     | some (.rs r off len), some (.val _ (.int _) i) => match rows r with
       | some ⟨_, .arr _ t _⟩ => if t = ty then oneIf (decide (0 ≤ i) && decide (i < (len : Int))) (.pel r (off + i.toNat) 0) else none
       | _ => none
     | _, _ => none
   | none => none
 | .index st x ix => match ρ x, ρ ix, T.at st with
   | some (.val _ .str s), some (.val _ (.int _) i), some ⟨.str, _, _, _, _⟩ => oneIf (decide (0 ≤ i) && decide (i < (s.size : Int))) (mi .u8 ((bytesOf s).getD i.toNat 0))
   | _, _, _ => none
 | .extract x i => match ρ x with
   | some (.tup l) => match l[i]? with
     | some v => one v
     | none => none
   | _ => none
 | .makeSlice t l c => match elemTy T t, ρ l, ρ c with
   | some (_, i, ty), some (.val _ (.int _) n), some (.val _ (.int _) m) =>
     some ⟨decide (0 ≤ n) && (decide (n ≤ m) && decide (m ≤ (LIM i.bytes : Int))), some (.rw key), [(key, ⟨0, .arr [] ty (List.replicate n.toNat ty.zero)⟩)]⟩
   | _, _, _ => none
 | .makeMap t none => match mapTys T t with
   | some (kt, vt, bx) => some ⟨true, some (.rw key), [(key, ⟨0, .mp 0 [] kt vt bx [] none⟩)]⟩
   | none => none
 | .lookup t m x ok => match mapTys T t, ρ m, ρ x with
   | some q, some (.rw r), some kv => match rows r with
     | some ⟨n, .mp 0 p kt vt false l none⟩ => if q = (kt, vt, false) then (match keyOf kt kv with
       | some k => Q1ct key r n p kt k vt l ok
       | none => none) else none
     | _ => none
   | _, _, _ => none
 | .mapUpdate t m x y => match mapTys T t, ρ m, ρ x, ρ y with
   | some q, some (.rw r), some kv, some v => match rows r with
     | some ⟨n, .mp 0 p kt vt false l tk⟩ => if q = (kt, vt, false) then (match keyOf kt kv with
       | some k => updOut rows r n p kt k tk v vt l
       | none => none) else none
     | _ => none
   | _, _, _, _ => none
 | .range t x => match mapTys T t, ρ x with
   | some q, some (.rw r) => match rows r with
     | some ⟨n, .mp 0 p kt vt bx l none⟩ => some ⟨true, some (.ptr key 0), [(r, ⟨n, .gone⟩), (key, ⟨0, .mp 1 p kt vt bx l none⟩)]⟩
     | _ => none
   | _, _ => none
 | .entry x => match ρ x with
   | some (.ptr r 0) => match rows r with
     | some ⟨n, .mp 2 p kt vt false l none⟩ => if oneTy kt && (kt.flat && oneTy vt) then Qqw key r n p kt vt l else none
     | _ => none
   | _ => none
 | .makeFunc (.func f) ⟨[]⟩ cs => match (cs.toList.mapM ρ) with
   | some l => one (.fn f l)
   | none => none
 | .call c => match c.callee with
   | .builtin b => match c.args.toList.mapM ρ with
     | some vs => Q1w T key b c.argTypes.toList vs rows
     | none => none
   | _ => none
 | _ => none
end
end Go.Proofs.YtecnlienmpdlaaaGreat.PM

/- A small machine over plain values (PM): its values, its memory and what each operation does. Slices are read as lists; rows of the run's own have numbers. -/
import Derived.Calls
import Derived.Orders
import Derived.Laws.Entries
import Derived.Laws.Sem
namespace Go.Proofs.Ytecnlienmpdlaaa.PM
open Go


/-- Types of plain values. -/
inductive Ty where
  | int (k : IntKind) | bool | str | unit | slice (t : Ty) | prod (a b : Ty)
  deriving DecidableEq

@[reducible] noncomputable def Ty.D : Ty → Type
  | .int _ => Int
  | .bool => Bool
  | .str => ByteArray
  | .unit => Unit
  | .slice t => List t.D
  | .prod a b => a.D × b.D

noncomputable def Ty.zero : (t : Ty) → t.D
  | .int _ => (0 : Int)
  | .bool => false
  | .str => (⟨#[]⟩ : ByteArray)
  | .unit => ()
  | .slice _ => []
  | .prod a b => (a.zero, b.zero)

/-- How many cells a value takes. -/
noncomputable def Ty.size : Ty → Nat
  | .int _ | .bool | .str | .slice _ => 1
  | .unit => 0
  | .prod a b => a.size + b.size

/-- Values of this type lead nowhere. -/
noncomputable def Ty.flat : Ty → Bool
  | .int _ | .bool | .str | .unit => true
  | .slice _ => false
  | .prod a b => a.flat && b.flat

/-- What a value hangs on: rows of the run's own (number, version) that must stay as they are; number 0: memory of a caller's. -/
abbrev Prov := List (Nat × Nat)

inductive PV where
  | val (p : Prov) (t : Ty) (x : t.D)
  | nils
  | rw (r : Nat)
  | rs (r off len : Nat)
  | ptr (r off : Nat)
  | pel (r i off : Nat)
  | pvl (p : Prov) (t : Ty) (l : List t.D) (i off : Nat)
  | nilp
  | fn (f : Nat) (caps : List PV)
  | agg (l : List PV)
  | tup (l : List PV)
  | lit (v : Value)
  | und

inductive Row where
  | arr (p : Prov) (t : Ty) (l : List t.D)
  | vars (l : List PV)
  | gone
  /-- A map (it = 0), what is left of one that is ranged over (1), or that with the entry of now ahead (2): its entries, and one that was taken out. -/
  | mp (it : Nat) (p : Prov) (kt vt : Ty) (bx : Bool) (l : List (kt.D × vt.D)) (tk : Option (kt.D × Nat))

structure RowS where
  ver : Nat
  row : Row

abbrev Env := Nat → Option PV
abbrev Rows := Nat → Option RowS

structure St where
  env : Env
  rows : Rows

noncomputable def upd {β : Type} (f : Nat → β) (a : Nat) (b : β) : Nat → β := fun x => if x == a then b else f x
noncomputable def updAll {β : Type} (f : Nat → Option β) : List (Nat × β) → (Nat → Option β)
  | [] => f
  | (a, b) :: l => updAll (upd f a (some b)) l

/-- A type of the program's, as far as the machine asks. -/
inductive TD where
  | int (k : IntKind) | bool | str | slice (e : Nat) | struct (fs : List (Nat × Nat)) | ptr (e : Nat) | func | map (k e : Nat) | other

structure TI where
  d : TD
  size : Nat
  bytes : Nat
  zero : List Value
  ty : Option Ty

abbrev TT := List (Nat × TI)
noncomputable def TT.at (T : TT) (t : Nat) : Option TI := match T with
  | [] => none
  | (a, i) :: l => if a == t then some i else TT.at l t

/-! ### values and cells -/
noncomputable def explode (p : Prov) : (t : Ty) → t.D → List PV
  | .int k, x => [.val [] (.int k) x]
  | .bool, x => [.val [] .bool x]
  | .str, x => [.val [] .str x]
  | .unit, _ => []
  | .slice t, x => [.val p (.slice t) x]
  | .prod a b, x => explode p a x.1 ++ explode p b x.2

/-- What elements of a type hang on. -/
noncomputable def flatP (t : Ty) (p : Prov) : Prov := bif t.flat then [] else p

/-- A cell's value, if it is of the type. -/
noncomputable def leafOf (t : Ty) : PV → Option t.D
  | .val _ t' x => if h : t' = t then some (h ▸ x) else none
  | .nils => match t with
    | .slice _ => some []
    | _ => none
  | _ => none

noncomputable def implode : (t : Ty) → List PV → Option (t.D × List PV)
  | .int k, v :: l => (leafOf (.int k) v).map fun x => (x, l)
  | .bool, v :: l => (leafOf .bool v).map fun x => (x, l)
  | .str, v :: l => (leafOf .str v).map fun x => (x, l)
  | .unit, l => some ((), l)
  | .slice t, v :: l => (leafOf (.slice t) v).map fun x => (x, l)
  | .prod a b, l => match implode a l with
    | some (x, l1) => match implode b l1 with
      | some (y, l2) => some ((x, y), l2)
      | none => none
    | none => none
  | _, [] => none

noncomputable def provOf : PV → Prov
  | .val p _ _ => p
  | .pvl p _ _ _ _ => p
  | _ => []

/-- The rows that a value leads to by itself. -/
noncomputable def idsOf : PV → List Nat
  | .rw r | .rs r _ _ | .ptr r _ | .pel r _ _ => [r]
  | .fn _ l | .agg l | .tup l => idsAll l
  | _ => []
where idsAll : List PV → List Nat
  | [] => []
  | v :: l => idsOf v ++ idsAll l

/-- Do the rows that a value hangs on stand as they stood? -/
noncomputable def okProv (rows : Rows) : Prov → Bool
  | [] => true
  | (r, n) :: l => (match rows r with
    | none => true
    | some s => match s.row with
      | .gone => false
      | _ => s.ver == n) && okProv rows l

noncomputable def okPV (rows : Rows) : PV → Bool
  | .val p _ _ => okProv rows p
  | .pvl p _ _ _ _ => okProv rows p
  | .fn _ l | .agg l | .tup l => okAll rows l
  | _ => true
where okAll (rows : Rows) : List PV → Bool
  | [] => true
  | v :: l => okPV rows v && okAll rows l

/-- A row's part as a plain value. -/
noncomputable def toVal (rows : Rows) : PV → Option PV
  | .rw r => match rows r with
    | some ⟨n, .arr p t l⟩ => if okProv rows p then some (.val ((r, n) :: p) (.slice t) l) else none
    | _ => none
  | .rs r off len => match rows r with
    | some ⟨n, .arr p t l⟩ => if okProv rows p then some (.val ((r, n) :: p) (.slice t) ((l.drop off).take len)) else none
    | _ => none
  | v => some v
noncomputable def toVals (rows : Rows) : List PV → Option (List PV)
  | [] => some []
  | v :: l => match toVal rows v with
    | some x => match toVals rows l with
      | some y => some (x :: y)
      | none => none
    | none => none

noncomputable def constPV : Value → PV
  | .int k n => .val [] (.int k) n
  | .bool b => .val [] .bool b
  | .string s => .val [] .str s
  | .slice none 0 0 => .nils
  | .pointer none => .nilp
  | v => .lit v

noncomputable def look (st : St) : Operand → Option PV
  | .tmp t => match st.env t with
    | some v => if okPV st.rows v then some v else none
    | none => none
  | .const v => if v.oneCell' then some (constPV v) else none
  | .func f => some (.fn f [])
  | .global _ => none

/-- The cells of a value. -/
noncomputable def cells : PV → Option (List PV)
  | .agg l => some l
  | .tup _ => none
  | .und => none
  | v => some [v]
noncomputable def fromCells (agg : Bool) (l : List PV) : Option PV := match agg, l with
  | true, l => some (.agg l)
  | false, [v] => some v
  | _, _ => none
noncomputable def aggOf : TD → Option Bool
  | .struct _ => some true
  | .other => none
  | _ => some false

/-- What an operation comes to: under a condition, a value, and rows that become others. -/
structure Out where
  ok : Bool
  v : Option PV
  upd : List (Nat × RowS)

noncomputable def one (v : PV) : Option Out := some ⟨true, some v, []⟩
noncomputable def oneIf (c : Bool) (v : PV) : Option Out := some ⟨c, some v, []⟩

noncomputable def mi (k : IntKind) (n : Int) : PV := .val [] (.int k) n
noncomputable def mb (b : Bool) : PV := .val [] .bool b

noncomputable def strCmp (x y : ByteArray) : Bool := x.toList == y.toList

noncomputable def intBin (op : BinOp) (k : IntKind) (a : Int) (k' : IntKind) (b : Int) : Option Out := match op with
  | .shl => oneIf (decide (0 ≤ b)) (mi k (k.wrap (a * 2 ^ min b.toNat k.bits)))
  | .shr => oneIf (decide (0 ≤ b)) (mi k (Int.fdiv a (2 ^ min b.toNat k.bits)))
  | op => if k = k' then (match op with
    | .add => one (mi k (k.wrap (a + b)))
    | .sub => one (mi k (k.wrap (a - b)))
    | .mul => one (mi k (k.wrap (a * b)))
    | .quo => oneIf (!(b == 0)) (mi k (k.wrap (Int.tdiv a b)))
    | .rem => oneIf (!(b == 0)) (mi k (Int.tmod a b))
    | .and => one (mi k (bits .and k a b))
    | .or => one (mi k (bits .or k a b))
    | .xor => one (mi k (bits .xor k a b))
    | .andNot => one (mi k (bits .andNot k a b))
    | .eql => one (mb (a == b))
    | .neq => one (mb (a != b))
    | .lss => one (mb (decide (a < b)))
    | .leq => one (mb (decide (a ≤ b)))
    | .gtr => one (mb (decide (a > b)))
    | .geq => one (mb (decide (a ≥ b)))
    | _ => none) else none

noncomputable def strBin (op : BinOp) (a b : ByteArray) : Option Out := match op with
  | .add => oneIf (decide (a.size + b.size ≤ 9223372036854775807)) (.val [] .str (a ++ b))
  | .eql => one (mb (a.toList == b.toList))
  | .neq => one (mb (!(a.toList == b.toList)))
  | .lss => one (mb (Op.bytesLess a.toList b.toList))
  | .geq => one (mb (!(Op.bytesLess a.toList b.toList)))
  | .leq => one (mb (Op.bytesLess a.toList b.toList || a.toList == b.toList))
  | .gtr => one (mb (!(Op.bytesLess a.toList b.toList || a.toList == b.toList)))
  | _ => none

noncomputable def boolBin (op : BinOp) (a b : Bool) : Option Out := match op with
  | .eql => one (mb (a == b))
  | .neq => one (mb (!(a == b)))
  | _ => none

noncomputable def nilBin (op : BinOp) (same : Bool) : Option Out := match op with
  | .eql => one (mb same)
  | .neq => one (mb (!same))
  | _ => none

/-- Two values of a type that leads nowhere: are they the same? -/
noncomputable def Ty.beq : (t : Ty) → t.D → t.D → Bool
  | .int _, x, y => (show Int from x) == (show Int from y)
  | .bool, x, y => (show Bool from x) == (show Bool from y)
  | .str, x, y => (show ByteArray from x) == (show ByteArray from y)
  | .unit, _, _ => true
  | .slice _, _, _ => false
  | .prod a b, x, y => a.beq x.1 y.1 && b.beq x.2 y.2
noncomputable def Ty.depth : Ty → Nat
  | .prod a b => max (a.depth + 1) b.depth
  | _ => 1

noncomputable def aggBin (T : TT) (xt : Nat) (op : BinOp) (l l' : List PV) : Option Out := match T.at xt with
  | some ⟨.struct _, _, _, _, some (.prod a b)⟩ => if (Ty.prod a b).flat && decide ((Ty.prod a b).depth < 1000) then (match implode (.prod a b) l, implode (.prod a b) l' with
    | some (x, []), some (y, []) => (match op with
      | .eql => one (mb ((Ty.prod a b).beq x y))
      | .neq => one (mb (!((Ty.prod a b).beq x y)))
      | _ => none)
    | _, _ => none) else none
  | _ => none

/-- Pointers, at least one of which is nil. -/
noncomputable def isPtr : PV → Bool
  | .ptr _ _ | .pel _ _ _ => true
  | _ => false

noncomputable def binop (T : TT) (xt : Nat) (op : BinOp) (x y : PV) : Option Out := match x, y with
  | .agg l, .agg l' => aggBin T xt op l l'
  | .val _ (.int k) a, .val _ (.int k') b => intBin op k a k' b
  | .val _ .str a, .val _ .str b => strBin op a b
  | .val _ .bool a, .val _ .bool b => match T.at xt with
    | some ⟨.bool, _, _, _, _⟩ => boolBin op a b
    | _ => none
  | _, _ => none

end Go.Proofs.Ytecnlienmpdlaaa.PM

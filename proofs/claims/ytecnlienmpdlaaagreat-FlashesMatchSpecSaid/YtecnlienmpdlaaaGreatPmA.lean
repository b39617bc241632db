import Derived.Calls
import Derived.Orders
import Derived.Laws.Entries
import Derived.Laws.Sem
namespace Go.Proofs.YtecnlienmpdlaaaGreat.PM
open Go
abbrev LI := List Int
abbrev BA := ByteArray
abbrev Oq (R : Type) := Option R
theorem oi {α : Type} {a b : α} (h : some a = some b) : a = b := Option.some.inj h
noncomputable section
inductive Ty where
 | int (k : IntKind) | bool | str | unit | slice (t : Ty) | prod (a b : Ty)
 deriving DecidableEq
@[reducible] def Ty.D : Ty → Type
  | .int _ => Int
  | .bool => Bool
  | .str => ByteArray
  | .unit => Unit
  | .slice t => List t.D
  | .prod a b => a.D × b.D
def Ty.zero : (t : Ty) → t.D
 | .int _ => (0 : Int)
 | .bool => false
 | .str => (⟨#[]⟩ : ByteArray)
 | .unit => ()
 | .slice _ => []
 | .prod a b => (a.zero, b.zero)
def Ty.size : Ty → Nat
 | .int _ | .bool | .str | .slice _ => 1
 | .unit => 0
 | .prod a b => a.size + b.size
def Ty.flat : Ty → Bool
 | .int _ | .bool | .str | .unit => true
 | .slice _ => false
 | .prod a b => a.flat && b.flat
abbrev Prov := List (Nat × Nat)
inductive PV where
 | val (p : Prov) (t : Ty) (x : t.D)
 | nils
 | rw (r : Nat)
 | rs (r off len : Nat)
 | ptr (r off : Nat)
 | pel (r i off : Nat)
 | pvl (p : Prov) (t : Ty) (l : List t.D) (i off : Nat)
 | nilp
 | fn (f : Nat) (caps : List PV)
 | agg (l : List PV)
 | tup (l : List PV)
 | lit (v : Value)
 | und
inductive Row where
 | arr (p : Prov) (t : Ty) (l : List t.D)
 | vars (l : List PV)
 | gone
 | mp (it : Nat) (p : Prov) (kt vt : Ty) (bx : Bool) (l : List (kt.D × vt.D)) (tk : Option (kt.D × Nat))
structure RowS where
 ver : Nat
 row : Row
abbrev Env := Nat → Option PV
abbrev Rows := Nat → Option RowS
structure St where
 env : Env
 rows : Rows
def upd {β : Type} (f : Nat → β) (a : Nat) (b : β) : Nat → β := fun x => if x == a then b else f x
def updAll {β : Type} (f : Nat → Option β) : List (Nat × β) → (Nat → Option β)
 | [] => f
 | (a, b) :: l => updAll (upd f a (some b)) l
inductive TD where
 | int (k : IntKind) | bool | str | slice (e : Nat) | struct (fs : List (Nat × Nat)) | ptr (e : Nat) | func | map (k e : Nat) | other
structure TI where
 d : TD
 size : Nat
 bytes : Nat
 zero : List Value
 ty : Option Ty
abbrev TT := List (Nat × TI)
def TT.at (T : TT) (t : Nat) : Option TI := match T with
 | [] => none
 | (a, i) :: l => if a == t then some i else TT.at l t
def Q1i (p : Prov) : (t : Ty) → t.D → List PV
 | .int k, x => [.val [] (.int k) x]
 | .bool, x => [.val [] .bool x]
 | .str, x => [.val [] .str x]
 | .unit, _ => []
 | .slice t, x => [.val p (.slice t) x]
 | .prod a b, x => Q1i p a x.1 ++ Q1i p b x.2
def flatP (t : Ty) (p : Prov) : Prov := bif t.flat then [] else p
def leafOf (t : Ty) : PV → Option t.D
 | .val _ t' x => if h : t' = t then some (h ▸ x) else none
 | .nils => match t with
   | .slice _ => some []
   | _ => none
 | _ => none
def Q14 : (t : Ty) → List PV → Option (t.D × List PV)
 | .int k, v :: l => (leafOf (.int k) v).map fun x => (x, l)
 | .bool, v :: l => (leafOf .bool v).map fun x => (x, l)
 | .str, v :: l => (leafOf .str v).map fun x => (x, l)
 | .unit, l => some ((), l)
 | .slice t, v :: l => (leafOf (.slice t) v).map fun x => (x, l)
 | .prod a b, l => match Q14 a l with
   | some (x, l1) => match Q14 b l1 with
     | some (y, l2) => some ((x, y), l2)
     | none => none
   | none => none
 | _, [] => none
def provOf : PV → Prov
 | .val p _ _ => p
 | .pvl p _ _ _ _ => p
 | _ => []
def idsOf : PV → List Nat
 | .rw r | .rs r _ _ | .ptr r _ | .pel r _ _ => [r]
 | .fn _ l | .agg l | .tup l => idsAll l
 | _ => []
where idsAll : List PV → List Nat
 | [] => []
 | v :: l => idsOf v ++ idsAll l
def okProv (rows : Rows) : Prov → Bool
 | [] => true
 | (r, n) :: l => (match rows r with
   | none => true
   | some s => match s.row with
     | .gone => false
     | _ => s.ver == n) && okProv rows l
def okPV (rows : Rows) : PV → Bool
 | .val p _ _ => okProv rows p
 | .pvl p _ _ _ _ => okProv rows p
 | .fn _ l | .agg l | .tup l => okAll rows l
 | _ => true
where okAll (rows : Rows) : List PV → Bool
 | [] => true
 | v :: l => okPV rows v && okAll rows l
def toVal (rows : Rows) : PV → Option PV
 | .rw r => match rows r with
   | some ⟨n, .arr p t l⟩ => if okProv rows p then some (.val ((r, n) :: p) (.slice t) l) else none
   | _ => none
 | .rs r off len => match rows r with
   | some ⟨n, .arr p t l⟩ => if okProv rows p then some (.val ((r, n) :: p) (.slice t) ((l.drop off).take len)) else none
   | _ => none
 | v => some v
def toVals (rows : Rows) : List PV → Option (List PV)
 | [] => some []
 | v :: l => match toVal rows v with
   | some x => match toVals rows l with
     | some y => some (x :: y)
     | none => none
   | none => none
def Q3v : Value → PV
 | .int k n => .val [] (.int k) n
 | .bool b => .val [] .bool b
 | .string s => .val [] .str s
 | .slice none 0 0 => .nils
 | .pointer none => .nilp
 | v => .lit v
def look (st : St) : Operand → Option PV
 | .tmp t => match st.env t with
   | some v => if okPV st.rows v then some v else none
   | none => none
 | .const v => if v.oneCell' then some (Q3v v) else none
 | .func f => some (.fn f [])
 | .global _ => none
def cells : PV → Option (List PV)
 | .agg l => some l
 | .tup _ => none
 | .und => none
 | v => some [v]
def Qlj (agg : Bool) (l : List PV) : Option PV := match agg, l with
 | true, l => some (.agg l)
 | false, [v] => some v
 | _, _ => none
def aggOf : TD → Option Bool
 | .struct _ => some true
 | .other => none
 | _ => some false
structure Out where
 ok : Bool
 v : Option PV
 upd : List (Nat × RowS)
def one (v : PV) : Option Out := some ⟨true, some v, []⟩
def oneIf (c : Bool) (v : PV) : Option Out := some ⟨c, some v, []⟩
def mi (k : IntKind) (n : Int) : PV := .val [] (.int k) n
def mb (b : Bool) : PV := .val [] .bool b
def intBin (op : BinOp) (k : IntKind) (a : Int) (k' : IntKind) (b : Int) : Option Out := match op with
 | .shl => oneIf (decide (0 ≤ b)) (mi k (k.wrap (a * 2 ^ min b.toNat k.bits)))
 | .shr => oneIf (decide (0 ≤ b)) (mi k (Int.fdiv a (2 ^ min b.toNat k.bits)))
 | op => if k = k' then (match op with
   | .add => one (mi k (k.wrap (a + b)))
   | .sub => one (mi k (k.wrap (a - b)))
   | .mul => one (mi k (k.wrap (a * b)))
   | .quo => oneIf (!(b == 0)) (mi k (k.wrap (Int.tdiv a b)))
   | .rem => oneIf (!(b == 0)) (mi k (Int.tmod a b))
   | .and => one (mi k (bits .and k a b))
   | .or => one (mi k (bits .or k a b))
   | .xor => one (mi k (bits .xor k a b))
   | .andNot => one (mi k (bits .andNot k a b))
   | .eql => one (mb (a == b))
   | .neq => one (mb (a != b))
   | .lss => one (mb (decide (a < b)))
   | .leq => one (mb (decide (a ≤ b)))
   | .gtr => one (mb (decide (a > b)))
   | .geq => one (mb (decide (a ≥ b)))
   | _ => none) else none
def strBin (op : BinOp) (a b : ByteArray) : Option Out := match op with
 | .add => oneIf (decide (a.size + b.size ≤ 9223372036854775807)) (.val [] .str (a ++ b))
 | .eql => one (mb (a.toList == b.toList))
 | .neq => one (mb (!(a.toList == b.toList)))
 | .lss => one (mb (Op.bytesLess a.toList b.toList))
 | .geq => one (mb (!(Op.bytesLess a.toList b.toList)))
 | .leq => one (mb (Op.bytesLess a.toList b.toList || a.toList == b.toList))
 | .gtr => one (mb (!(Op.bytesLess a.toList b.toList || a.toList == b.toList)))
 | _ => none
def Qnd (op : BinOp) (a b : Bool) : Option Out := match op with
 | .eql => one (mb (a == b))
 | .neq => one (mb (!(a == b)))
 | _ => none
def Ty.beq : (t : Ty) → t.D → t.D → Bool
 | .int _, x, y => (show Int from x) == (show Int from y)
 | .bool, x, y => (show Bool from x) == (show Bool from y)
 | .str, x, y => (show ByteArray from x) == (show ByteArray from y)
 | .unit, _, _ => true
 | .slice _, _, _ => false
 | .prod a b, x, y => a.beq x.1 y.1 && b.beq x.2 y.2
def Ty.depth : Ty → Nat
 | .prod a b => max (a.depth + 1) b.depth
 | _ => 1
def aggBin (T : TT) (xt : Nat) (op : BinOp) (l l' : List PV) : Option Out := match T.at xt with
 | some ⟨.struct _, _, _, _, some (.prod a b)⟩ => if (Ty.prod a b).flat && decide ((Ty.prod a b).depth < 1000) then (match Q14 (.prod a b) l, Q14 (.prod a b) l' with
   | some (x, []), some (y, []) => (match op with
     | .eql => one (mb ((Ty.prod a b).beq x y))
     | .neq => one (mb (!((Ty.prod a b).beq x y)))
     | _ => none)
   | _, _ => none) else none
 | _ => none
def binop (T : TT) (xt : Nat) (op : BinOp) (x y : PV) : Option Out := match x, y with
 | .agg l, .agg l' => aggBin T xt op l l'
 | .val _ (.int k) a, .val _ (.int k') b => intBin op k a k' b
 | .val _ .str a, .val _ .str b => strBin op a b
 | .val _ .bool a, .val _ .bool b => match T.at xt with
   | some ⟨.bool, _, _, _, _⟩ => Qnd op a b
   | _ => none
 | _, _ => none
end
end Go.Proofs.YtecnlienmpdlaaaGreat.PM
